/- Lemmas and walks, joined and shortened by program (wip/gen/merge2.py). -/
import Derived.Test.YtlkoaobaoffpaaaGreatDoorZ4
import Derived.Test.YtlkoaobaoffpaaaGreatDoorZ6
import Derived.Test.YtlkoaobaoffpaaaGreatDoorZ1
namespace Go.Proofs.YtlkoaobaoffpaaaGreatDoor
open Go.RowKit
set_option maxHeartbeats 8000000
set_option maxRecDepth 100000
set_option linter.unusedSimpArgs false
set_option linter.unusedVariables false
theorem jap {n lo hi:Int} :inB n lo hi=true↔lo≤n∧n≤hi:=by simp[inB]
theorem Jo {m:Jl} :Ys m=true↔usersOk m.keys m.used=true∧(1≤(m.Rz.length:Int)∧(m.Rz.length:Int)≤3)∧∀p∈m.Rz,repoOk m.keys.length p=true:=by
 simp[Ys,jap,and_assoc]
theorem J8 {keys used:List Int} :usersOk keys used=true↔(1≤(keys.length:Int)∧(keys.length:Int)≤4)∧used.length=keys.length∧(∀n∈keys,1≤n∧n≤9999)∧∀n∈used,0≤n∧n≤200:=by
 simp[usersOk,jap,and_assoc]
theorem jkm {l:List ByteArray} :jay l=true↔(∀n∈l,Y5 n=true)∧l.Pairwise fun a b=>bLt a b=true:=by
 simp[jay]
theorem Yj {u:Int} {p:Xq} :repoOk u p=true↔(∀x∈p.Fz,Xv x=true)∧(∀x∈p.Fz,Y5 x.name=true)∧asc Ref.name p.Fz∧(1≤p.Az∧p.Az≤u)∧J5 p.Uz=true∧p.Fz.length≤3:=by
 simp[repoOk,jkm,jap,jpe,and_assoc]
theorem Z2 {x:Ref} :Xv x=true↔(0≤x.count∧x.count≤14)∧(1≤(x.Vz.length:Int)∧(x.Vz.length:Int)≤3)∧∀l∈x.Vz,Y1 l=true:=by
 simp[Xv,jap,and_assoc]
theorem jio {r:Req} (h:Yw r=true):r.ref=ByteArray.empty∨Y5 r.ref=true:=by
 simp only[Yw,Bool.and_eq_true] at h;simpa [refFits] using h.1.1.1.1.1.2
theorem jmn {r:Req} (h:Yw r=true):(0≤r.user∧r.user≤99)∧(0≤r.repo∧r.repo≤99)∧(0≤r.old∧r.old≤99)∧(0≤r.back∧r.back≤99)∧(0≤r.frm∧r.frm≤99):=by
 simp only[Yw,Bool.and_eq_true,jap] at h;exact⟨h.1.1.1.1.1.1.1.1.1.1.1.1,h.1.1.1.1.1.1.1.1.1.1.1.2,h.1.1.1.1.1.1.1.1.1.1.2,h.1.1.1.1.1.1.1.1.1.2,h.1.1.1.1.1.1.1.1.2⟩
theorem jkd {r:Req} (h:Yw r=true):r.Ez.length≤4∧∀e∈r.Ez,editOk e=true:=by
 simp only[Yw,Bool.and_eq_true,decide_eq_true_eq,Bool.not_eq_true',List.any_eq_false] at h;exact⟨h.1.2,fun e he=>by have:=h.2 e he;simpa using this⟩
theorem jp3 {α:Type} {l:List α} {k:Nat} {z:α} (h:k<l.length):l.getD k z∈l:=by
 rw[List.getD_eq_getElem?_getD,List.getElem?_eq_getElem h];exact List.getElem_mem h
theorem J4 {α:Type} {l:List α} {k:Nat} {z:α} (h:k<l.length):l.getD k z=l[k]:=by rw[List.getD_eq_getElem?_getD,List.getElem?_eq_getElem h];rfl
theorem ja5 {vs:List (List File)} {b:Int} {l:List File} (h:version vs b=some l):l∈vs:=by
 unfold version at h;split at h
 ·exact List.mem_of_getElem? h
 ·cases h
theorem jk4 {m:Jl} {repo back:Int} {name:ByteArray} {l:List File} (h:Xn m repo name back=some l): ∃p∈m.Rz,∃x∈p.Fz,x.name=name∧version x.Vz back=some l:=by
 unfold Xn at h;split at h
 ·split at h
  ·cases h
  ·rename_i p hp
   split at h
   ·cases h
   ·rename_i k hk
    obtain⟨hk',he⟩:=je8 (key:=Ref.name) hk;rw[J4 hk'] at h;exact⟨p,List.mem_of_getElem? hp,_,List.getElem_mem hk',he,h⟩
 ·cases h
theorem jg3 {m:Jl} {repo back:Int} {name:ByteArray} {l:List File} (hm:Ys m=true) (h:Xn m repo name back=some l):Y1 l=true:=by
 obtain⟨p,hp,x,hx,_,hv⟩:=jk4 h;exact(Z2.1 ((Yj.1 ((Jo.1 hm).2.2 p hp)).1 x hx)).2.2 l (ja5 hv)
theorem jiv {m:Jl} {x:Ref} {r:Req} (hm:Ys m=true) (hx:Xv x=true) (h:(newest m x r).2=1):Y1 (newest m x r).1=true:=by
 unfold newest at h ⊢;split at h
 ·rename_i h1
  rw[if_pos h1];cases hv:version x.Vz 0 with
  |none=>rw[hv] at h;cases h
  |some l=>
   rw[hv] at h;simp only at h ⊢;cases ht:Yu l r.Ez with
   |none=>rw[ht] at h;cases h
   |some o=>exact jbs ht
 ·rename_i h1
  rw[if_neg h1];split at h
  ·rename_i h2
   rw[if_pos h2];split at h
   ·cases h
   ·rename_i h3
    rw[if_neg h3];cases hv:version x.Vz r.back with
    |none=>rw[hv] at h;cases h
    |some l=>exact(Z2.1 hx).2.2 l (ja5 hv)
  ·rename_i h2
   rw[if_neg h2];cases hf:Xn m r.frm r.other 0 with
   |none=>rw[hf] at h;cases h
   |some l=>exact jg3 hm hf
theorem jbc {u:Int} {p:Xq} (h:repoOk u p=true) {l:List Ref} (h1: ∀x∈l,Xv x=true∧Y5 x.name=true) (h2:asc Ref.name l) (h3:l.length≤3):repoOk u { p with Fz:=l} =true:=by
 have k:=Yj.1 h;exact Yj.2 ⟨fun x hx=>(h1 x hx).1,fun x hx=>(h1 x hx).2,h2,k.2.2.2.1,k.2.2.2.2.1,h3⟩
theorem jen {u:Int} {p:Xq} (h:repoOk u p=true) {l:List Yt} (h1:J5 l=true):repoOk u { p with Uz:=l} =true:=by
 have k:=Yj.1 h;exact Yj.2 ⟨k.1,k.2.1,k.2.2.1,k.2.2.2.1,h1,k.2.2.2.2.2⟩
theorem Zq {u:Int} {p:Xq} (h:repoOk u p=true) {x:Ref} (hx:x∈p.Fz):Xv x=true∧Y5 x.name=true:=⟨(Yj.1 h).1 x hx,(Yj.1 h).2.1 x hx⟩
theorem jn0:Y1 []=true:=by decide
theorem joo {u:Int} {p:Xq} {r:Req} (h:repoOk u p=true) (hr:Yw r=true):repoOk u (manage p r).1=true:=by
 unfold manage;split
 ·split
  ·exact h
  ·split
   ·rename_i hp;exact jen h (jhh hp).1
   ·exact h
 ·split
  ·split
   ·exact jen h (jhi (Yj.1 h).2.2.2.2.1 _)
   ·exact h
  ·split
   ·rename_i hn
    split
    ·split
     ·exact h
     ·rename_i he
      split
      ·exact h
      ·rename_i h3
       have hl:=(Yj.1 h).2.2.2.2.2;refine jbc h (fun x hx=> ?_) (jju (key:=Ref.name) (x:=⟨r.ref,false,0,[[]]⟩) (Yj.1 h).2.2.1 (jl8 (key:=Ref.name) hn)) (by rw[jaw];omega);rcases jfo.1 hx with rfl|hx
       ·exact⟨Z2.2 ⟨by simp,by simp,fun l hl=>by rw[List.mem_singleton.1 hl];exact jn0⟩,(jio hr).resolve_left he⟩
       ·exact Zq h hx
    ·exact h
   ·rename_i k hk
    obtain⟨hk',he⟩:=je8 (key:=Ref.name) hk;have hl:=(Yj.1 h).2.2.2.2.2;split
    ·exact h
    ·split
     ·rw[J4 hk'];refine jbc h (fun x hx=> ?_) (jln (key:=Ref.name) (Yj.1 h).2.2.1 hk' rfl) (by simpa using hl);rcases List.mem_or_eq_of_mem_set hx with hx|rfl
      ·exact Zq h hx
      ·have:=Zq h (List.getElem_mem hk');exact⟨Z2.2 (Z2.1 this.1),this.2⟩
     ·split
      ·exact h
      ·refine jbc h (fun x hx=>Zq h ((List.eraseIdx_sublist p.Fz k).subset hx)) (jjv (Yj.1 h).2.2.1 k) ?_;have:=List.length_eraseIdx_le p.Fz k;omega
theorem jht (l:List (List File)):(jgu l).length=min l.length 3:=by unfold jgu;rw[List.length_drop];omega
theorem jm2 {l:List (List File)} {x:List File} (h:x∈jgu l):x∈l:=List.mem_of_mem_drop h
theorem jgs {m:Jl} {k:Nat} {p:Xq} (hm:Ys m=true) (hp:repoOk m.keys.length p=true):Ys { m with Rz:=m.Rz.set k p} =true:=by
 obtain⟨h1,h2,h3⟩:=Jo.1 hm;refine Jo.2 ⟨h1,by simpa using h2,fun q hq=> ?_⟩;rcases List.mem_or_eq_of_mem_set hq with hq|rfl
 ·exact h3 q hq
 ·exact hp
theorem jmx {m:Jl} {k:Nat} {n:Int} (hm:Ys m=true) (h0:0≤n) (h1:n≤200):Ys { m with used:=m.used.set k n} =true:=by
 obtain⟨k1,k2,k3⟩:=Jo.1 hm;obtain⟨u1,u2,u3,u4⟩:=J8.1 k1;refine Jo.2 ⟨J8.2 ⟨u1,by simpa using u2,u3,fun x hx=> ?_⟩,k2,k3⟩;rcases List.mem_or_eq_of_mem_set hx with hx|rfl
 ·exact u4 x hx
 ·exact⟨h0,h1⟩
theorem jj4 {m:Jl} (hm:Ys m=true) (k:Nat):0≤m.used.getD k 0:=by
 by_cases h:k<m.used.length
 ·exact((J8.1 (Jo.1 hm).1).2.2.2 _ (jp3 h)).1
 ·rw[List.getD_eq_getElem?_getD,List.getElem?_eq_none (by omega)];exact Int.le_refl 0
theorem laid_ok {m:Jl} {p:Xq} {k:Nat} {r:Req} {files:List File} (hm:Ys m=true) (hp:repoOk m.keys.length p=true) (hk:k<p.Fz.length) (hf:Y1 files=true) (hc:(p.Fz.getD k Y8).count≠14)
  (hu: ¬m.used.getD (r.user - 1).toNat 0+Yg r.Ez > 200):Ys (jpm m p k r files)=true:=by
 have hx:=Zq hp (List.getElem_mem hk);rw[J4 hk] at hc;obtain⟨c1,c2,c3⟩:=Z2.1 hx.1;have hl:=(Yj.1 hp).2.2.2.2.2;have h0:=jj4 hm (r.user - 1).toNat;refine jgs (m:= { m with used:=m.used.set (r.user - 1).toNat (m.used.getD (r.user - 1).toNat 0+Yg r.Ez)}) (jmx hm (by omega) (by omega)) ?_
 refine jbc hp (fun x hx'=> ?_) (jln (key:=Ref.name) (Yj.1 hp).2.2.1 hk (by rw[J4 hk])) (by simpa using hl);rcases List.mem_or_eq_of_mem_set hx' with hx'|rfl
 ·exact Zq hp hx'
 ·rw[J4 hk];refine⟨Z2.2 ⟨⟨by simp only;omega,by simp only;omega⟩, ?_,fun l hl=> ?_⟩,hx.2⟩
  ·simp only[jht,List.length_append,List.length_singleton];omega
  ·rcases List.mem_append.1 (jm2 hl) with hl|hl
   ·exact c3 l hl
   ·rw[List.mem_singleton.1 hl];exact hf
theorem jpo {m:Jl} {p:Xq} {r:Req} (hm:Ys m=true) (hp:repoOk m.keys.length p=true):Ys (write m p r).1=true:=by
 unfold write;split
 ·split
  ·exact hm
  ·rename_i k hk
   obtain⟨hk',_⟩:=je8 (key:=Ref.name) hk;split
   ·exact hm
   ·split
    ·exact hm
    ·rename_i hc
     split
     ·exact hm
     ·rename_i hn
      split
      ·exact hm
      ·rename_i hu
       refine laid_ok hm hp hk' (jiv hm ?_ (by simpa using hn)) hc hu;rw[J4 hk'];exact(Zq hp (List.getElem_mem hk')).1
 ·exact hm
theorem jh2 {m:Jl} {r:Req} (hm:Ys m=true) (hr:Yw r=true):Ys (Zn m r).1=true:=by
 unfold Zn;split
 ·split
  ·exact hm
  ·split
   ·exact hm
   ·rename_i p hp
    have hp':=(Jo.1 hm).2.2 p (List.mem_of_getElem? hp);split
    ·exact hm
    ·split
     ·exact hm
     ·split
      ·exact jpo hm hp'
      ·split
       ·exact hm
       ·exact jgs hm (joo hp' hr)
 ·exact hm
theorem jhr {m:Jl} {r:Req} (h:Ys m=true∧Yw r=true):jai m r=Zn m r:=if_pos h
theorem jdn {m:Jl} {r:Req} (h: ¬(Ys m=true∧Yw r=true)):jai m r=(⟨[],[],[]⟩,⟨0,[],[],0⟩):=if_neg h
theorem Yp {w:World} {base:Nat} {v:Value} {l:List File} (h:w.ownsRow base 98 2 v l.length (l.flatMap Jj)): ∃A c f,v= .slice A l.length c∧SlR Rp.file w A l.length c l f∧(∀b∈f,base≤b)∧f.Nodup∧Free w f:=
 Xw (k:=2) (enc:=Jj) (hk:=fun _=>rfl) (h1:=Vz) h
theorem Cells.put {w:World} {b o:Nat} {cs:List Value} (h:Cells w b o cs) {j:Nat} (hj:j<cs.length) (v:Value):Cells (w.setCell ⟨b,o+j,none⟩ v) b o (cs.set j v):=fun i u hu=>by
 by_cases e:j=i
 ·subst e;rw[List.getElem?_set_self hj] at hu;cases hu;exact World.cell?_setCell_same w _ _ (h j cs[j] (List.getElem?_eq_getElem hj))
 ·rw[List.getElem?_set_ne e] at hu;rw[World.cell?_setCell_other _ _ _ _ (by simp only[ne_eq,Addr.mk.injEq];omega)];exact h i u hu
theorem Blk.new' {w:World} {H:Nat} (hH:w.heap.size=H) (t:TypeId) (cs:Array Value):Blk (w.alloc (.cells cs t)) H t cs:=by subst hH;exact Blk.new w t cs
def Clear (w:World) (fp fp':List Nat) (w':World):Prop:=∀z cur,w'.heap[z]? =some (.cells cur 45 (0,0))→z<w.heap.size→z∉fp→z∉fp'
def jeh (w:World) (b o:Nat) (f:List Nat) (p':Xq) (k:Int) (e:Ending) (w':World):Prop:=
 e= .returned (.int .i64 k)∧∃cr' f',Cells w' b o cr'∧Rp.repo.R w' cr' p' f'∧Clear w f f' w'∧(∀j,j<o∨o+3≤j→w'.cell? ⟨b,j,none⟩=w.cell? ⟨b,j,none⟩)∧Only (b::f) w w'
section
variable {w W:World} {b o:Nat} {cr:List Value} {p:Xq} {f:List Nat}
theorem V6 (k:Int) (hc:Cells w b o cr) (hp:Rp.repoO.R w cr p f) (hbl:b<w.heap.size) (hB:Below w.heap.size w W):jeh w b o f p k (.returned (.int .i64 k)) W:=by
 obtain⟨f',hf',hsub⟩:=jc5.2 _ _ _ _ (Rp.repoO.below hp hB nle);exact⟨rfl,cr,f',hc.keep (hB.block b hbl),hf',fun z _ _ _ hn hm=>hn (hsub.subset hm),fun j _=>World.cell?_of_block (a:=⟨b,j,none⟩) (hB.block b hbl),Only.of_below hB _⟩
theorem jdo (k:Int) {A:Option Addr} {n c:Nat} {l:List Yt} {fr:List Nat} (hc:Cells w b o cr) (hp:Rp.repoO.R w cr p f) (hbl:b<w.heap.size) (hbf:b∉f) (hB:Below w.heap.size w W)
  (hs:SlR Rp.rule W A n c l fr) (hl: ∀z∈fr,w.heap.size≤z):jeh w b o f { p with Uz:=l} k (.returned (.int .i64 k)) (W.setCell ⟨b,o+1,none⟩ (.slice A n c)):=by
 obtain⟨A0,n0,c0,f0,v,f1,rfl,rfl,h0,h1⟩:=hp;have h1W:=(h1.step hB).keep (w':=W.setCell ⟨b,o+1,none⟩ (.slice A n c)) fun z hz=>Below.heap_setCell _ _ _ _ (by rintro rfl;exact hbf (List.mem_append_right _ hz));obtain⟨A1,c1,f2,rfl,hs1,hsub1,_,_⟩:=h1W.sl;obtain⟨g,hg,hsub2⟩:=hs1.le jbl;have hcW:=(hc.keep (hB.block b hbl)).put (j:=1) (by simp) (.slice A n c)
 have hs':=hs.keep (w':=W.setCell ⟨b,o+1,none⟩ (.slice A n c)) fun z hz=>Below.heap_setCell _ _ _ _ (by rintro rfl;have:=hl _ hz;omega)
 refine⟨rfl,_,fr++g,hcW,⟨A,n,c,fr,A1,_,c1,g,rfl,rfl,hs',hg⟩,fun z _ _ hz hn hm=>(List.mem_append.1 hm).elim (fun h=>by have:=hl z h;omega) (fun h=>hn (List.mem_append_right _ (hsub1.subset (hsub2.subset h)))),fun j hj=> ?_,((Only.of_below hB _).setCell (.inl (by simp)) _)⟩;rw[World.cell?_setCell_other _ _ _ _ (by simp only[ne_eq,Addr.mk.injEq];omega)]
 exact World.cell?_of_block (a:=⟨b,j,none⟩) (hB.block b hbl)
theorem jhs (k:Int) {n c q g:Nat} {s0 s1:Value} (hc:Cells w b o [s0,s1,.slice (some ⟨g,q,none⟩) n c]) (hp:Rp.repoO.R w [s0,s1,.slice (some ⟨g,q,none⟩) n c] p f) (hn:f.Nodup) (hbl:b<w.heap.size) (hbf:b∉f) (hB:Below w.heap.size w W) {i:Nat} (hi:i<p.Fz.length):
  jeh w b o f { p with Fz:=p.Fz.set i { p.Fz[i] with guard:= !p.Fz[i].guard}} k (.returned (.int .i64 k)) (W.setCell ⟨g,q+i*4+1,none⟩ (.bool (!p.Fz[i].guard))):=by
 have hpW:=Rp.repoO.below hp hB nle;obtain⟨B0,m0,d0,g0,g',cap,cf,f3,he,hs0,hgf,hgl,hg3,hn3,hs3,hs30,hcf,hR,hcl⟩:=jhl hpW hn hi;simp only[List.cons.injEq,Value.slice.injEq,Option.some.injEq,Addr.mk.injEq,and_true] at he;obtain⟨_,_,⟨rfl,rfl⟩,rfl,rfl⟩:=he;have hgb:g≠b:=fun e=>hbf (e▸hgf);obtain⟨v,rfl,hO⟩:=hR;have hcf':=hcf.put (j:=1) (by simp) (.bool (!p.Fz[i].guard))
 have hO':=hO.keep (w':=W.setCell ⟨g,i*4+1,none⟩ (.bool (!p.Fz[i].guard))) fun z hz=>Below.heap_setCell _ _ _ _ (by rintro rfl;exact hg3 hz);obtain⟨f',hf',hsubf⟩:=jbl.2 _ _ _ _ (show Rp.refO.R _ [.string p.Fz[i].name,.bool (!p.Fz[i].guard),.int .i64 p.Fz[i].count,v] { p.Fz[i] with guard:= !p.Fz[i].guard} f3 from⟨v,rfl,hO'⟩)
 obtain⟨f'',hf'',hmf⟩:=hcl (W.setCell ⟨g,i*4+1,none⟩ (.bool (!p.Fz[i].guard))) _ _ f' (fun j hj=>World.cell?_setCell_other _ _ _ _ (by simp only[ne_eq,Addr.mk.injEq];omega)) (by simpa [World.setCell] using hgl) hcf' hf' (fun z _ hz _=>Below.heap_setCell _ _ _ _ hz);rw[Nat.zero_add]
 refine⟨rfl,_,f'',(hc.keep (hB.block b hbl)).keep (Below.heap_setCell _ _ _ _ (by exact fun e=>hgb e.symm)),hf'',fun z _ _ _ hn hm=>(hmf z hm).elim hn (fun h=>hn (hs3 z (hsubf.subset h))),fun j hj=> ?_,(Only.of_below hB _).setCell (.inl (by simp[hgf])) _⟩;rw[World.cell?_setCell_other _ _ _ _ (by simp only[ne_eq,Addr.mk.injEq];intro h;exact hgb h.1)]
 exact World.cell?_of_block (a:=⟨b,j,none⟩) (hB.block b hbl)
theorem jes (k:Int) {W2 Wi:World} {A:Option Addr} {n c:Nat} {l:List Ref} {fr:List Nat} {s0 s1 v:Value} {cur:Array Value} (hc:Cells w b o [s0,s1,v]) (hp:Rp.repoO.R w [s0,s1,v] p f) (hn:f.Nodup) (hbf:b∉f) (hbt:w.heap[b]? =some (.cells cur 38 (0,0)))
  (hB:Below w.heap.size w W2) (hg:W2.grownBy Wi v.ownBlock) (hs:SlR Rp.ref Wi A n c l fr) (hla: ∀z cur t,Wi.heap[z]? =some (.cells cur t (0,0))→t≠41→z<w.heap.size→z∉f→z∉fr):jeh w b o f { p with Fz:=l} k (.returned (.int .i64 k)) (Wi.setCell ⟨b,o+2,none⟩ (.slice A n c)):=by
 obtain⟨A0,n0,c0,f0,v',f1,he,rfl,h0,h1⟩:=hp;simp only[List.cons.injEq,and_true] at he;obtain⟨rfl,rfl,rfl⟩:=he;have hbl:b<w.heap.size:=(Array.getElem?_eq_some_iff.1 hbt).1;have hv: ∀z,v.ownBlock=some z→z∈f1:=fun z hz=>by
  obtain⟨xs,g1,_,_,rfl⟩:=h1;exact List.mem_append_left _ (by unfold Vm;rw[hz];simp)
 have hblk: ∀z,z<w.heap.size→z∉f1→Wi.heap[z]? =w.heap[z]? :=fun z hz hm=>(hg.block z (Nat.lt_of_lt_of_le hz hB.size) fun e=>hm (hv z e.symm)).trans (hB.block z hz);have hb':Wi.heap[b]? =w.heap[b]? :=hblk b hbl fun h=>hbf (List.mem_append_right _ h);have hd: ∀z∈f0,z∉f1:=fun z hz hm=>(List.nodup_append.1 hn).2.2 z hz z hm rfl;have hl:b∉fr:=hla b cur _ (hb'.trans hbt) (by decide) hbl hbf
 have h0':SlR Rp.rule (Wi.setCell ⟨b,o+2,none⟩ (.slice A n c)) A0 n0 c0 p.Uz f0:=(h0.keep fun z hz=>hblk z (h0.lt z hz) (hd z hz)).keep fun z hz=>Below.heap_setCell _ _ _ _ (by rintro rfl;exact hbf (List.mem_append_left _ hz));have hs':=hs.keep (w':=Wi.setCell ⟨b,o+2,none⟩ (.slice A n c)) fun z hz=>Below.heap_setCell _ _ _ _ (by rintro rfl;exact hl hz)
 have hcW:=(hc.keep hb').put (j:=2) (by simp) (.slice A n c);have hcl:Clear w (f0++f1) (f0++fr) (Wi.setCell ⟨b,o+2,none⟩ (.slice A n c)):=fun z cur' hz hzl hzn hm=>by
  have hzb:z≠b:=by
   rintro rfl;have e:=Jd (i:=o+2) (hb'.trans hbt) (.slice A n c);rw[e] at hz;cases hz
  rcases List.mem_append.1 hm with hm|hm
  ·exact hzn (List.mem_append_left _ hm)
  ·exact hla z cur' _ ((Below.heap_setCell _ _ _ _ hzb).symm.trans hz) (by decide) hzl hzn hm
 refine⟨rfl,_,f0++fr,hcW,⟨A0,n0,c0,f0,A,n,c,fr,rfl,rfl,h0',hs'⟩,hcl,fun j hj=> ?_, ?_⟩
 ·rw[World.cell?_setCell_other _ _ _ _ (by simp only[ne_eq,Addr.mk.injEq];omega)];exact World.cell?_of_block (a:=⟨b,j,none⟩) hb'
 ·refine Only.setCell ?_ (.inl (by simp)) _;exact⟨hg.os.trans hB.os,hg.tape.trans hB.tape,hg.output.trans hB.output,Nat.le_trans hB.size hg.size,fun z hz hm=>hblk z hz fun h=>hm (by simp[h])⟩
end
section
variable {W Wi:World} {v v':Value} {l:List Ref} {xs ys:List Value} {f1 g:List Nat} {y:Ref} {i b n base:Nat} {cur:Array Value}
theorem jps (ha:AllR Rp.refO W xs l f1) (hn:(Vm v++f1).Nodup) (hg:W.grownBy Wi v.ownBlock) (hi:i≤l.length) (hy:Rp.ref.R W ys y g) (hgv: ∀z∈g,z∉Vm v)
  (ho:Wi.ownsRow base 41 4 v' n (jae 4 i xs ys)) (hl:n=l.length+1):
  ∃A c fr,v'= .slice A n c∧SlR Rp.ref Wi A n c (l.take i++y::l.drop i) fr∧∀z cur t,Wi.heap[z]? =some (.cells cur t (0,0))→t≠41→z∉f1→z∉g→z∉fr:=by
 have hv: ∀z∈f1,v.ownBlock≠some z:=fun z hz e=>(List.nodup_append.1 hn).2.2 z (by unfold Vm;rw[e];simp) z hz rfl;obtain⟨k1,hk1,hsub⟩:=(ha.keep (w':=Wi) fun z hz=>hg.block z (ha.lt z hz) fun e=>hv z hz e.symm).le jbl;have hy':=Rp.ref.keep hy (w':=Wi) fun z hz=>hg.block z (Rp.ref.lt hy z hz) fun e=>hgv z hz (by unfold Vm;rw[←e];simp);obtain⟨f',hf',hperm⟩:=hk1.ins hi hy'
 have hlen:(l.take i++y::l.drop i).length=n:=by simp;omega
 rw[←hlen] at ho ⊢;obtain⟨A,c,f0,rfl,hs,h0,_,hfr⟩:=SlR.of_owns (r:=Rp.ref) ho hf';refine⟨A,c,_,rfl,hs,fun z cur t hbt hne hbf hbg hm=> ?_⟩;rcases List.mem_append.1 hm with hm|hm
 ·have hob:=(h0 z hm).1;rcases ho.2 with ⟨h,_⟩|⟨g',cap,cur',h,_,hg',_⟩
  ·rw[h] at hob;cases hob
  ·rw[h] at hob;simp only[Value.ownBlock,Option.some.injEq] at hob;subst hob;rw[hbt] at hg';cases hg';exact hne rfl
 ·rcases List.mem_append.1 (hperm.mem_iff.1 hm) with hm|hm
  ·exact hbg hm
  ·exact hbf (hsub.subset hm)
theorem jpt (ha:AllR Rp.refO W xs l f1) (hn:(Vm v++f1).Nodup) (hg:W.grownBy Wi v.ownBlock) (hi:i<l.length)
  (ho:Wi.ownsRow base 41 4 v' n (jdw 4 i xs)) (hl:n=l.length - 1):
  ∃A c fr,v'= .slice A n c∧SlR Rp.ref Wi A n c (l.eraseIdx i) fr∧∀z cur t,Wi.heap[z]? =some (.cells cur t (0,0))→t≠41→z∉f1→z∉fr:=by
 have hv: ∀z∈f1,v.ownBlock≠some z:=fun z hz e=>(List.nodup_append.1 hn).2.2 z (by unfold Vm;rw[e];simp) z hz rfl;obtain⟨k1,hk1,hsub⟩:=(ha.keep (w':=Wi) fun z hz=>hg.block z (ha.lt z hz) fun e=>hv z hz e.symm).le jbl;obtain⟨f',hf',hsub'⟩:=hk1.del hi;have hlen:(l.eraseIdx i).length=n:=by rw[List.length_eraseIdx_of_lt hi];omega
 rw[←hlen] at ho ⊢;obtain⟨A,c,f0,rfl,hs,h0,_,hfr⟩:=SlR.of_owns (r:=Rp.ref) ho hf';refine⟨A,c,_,rfl,hs,fun z cur t hbt hne hbf hm=> ?_⟩;rcases List.mem_append.1 hm with hm|hm
 ·have hob:=(h0 z hm).1;rcases ho.2 with ⟨h,_⟩|⟨g',cap,cur',h,_,hg',_⟩
  ·rw[h] at hob;cases hob
  ·rw[h] at hob;simp only[Value.ownBlock,Option.some.injEq] at hob;subst hob;rw[hbt] at hg';cases hg';exact hne rfl
 ·exact hbf (hsub.subset (hsub'.subset hm))
theorem ref_new {W:World} {nb:Nat} {t:TypeId} (s:ByteArray) (hk:Blk W nb t #[.slice none 0 0]):Rp.ref.R W [.string s,.bool false,.int .i64 0,.slice (some ⟨nb,0,none⟩) 1 1] ⟨s,false,0,[[]]⟩ [nb]:=by
 refine⟨some ⟨nb,0,none⟩,1,1,[nb],rfl,rfl,rfl,Nat.le_refl _,by simp[maxLen],[.slice none 0 0],[nb],[],⟨rfl,.inr ⟨by omega,nb,0,rfl,rfl,hk.lt,fun j u hu=> ?_⟩⟩,AllR.single ⟨none,0,0,rfl,SlR.nil⟩,rfl⟩;rw[Nat.zero_add,hk.cell j];simpa using hu
end
def lessR (l:List Ref) (p:ByteArray) (j:Nat):Prop:=∀i (hi:i<l.length),i<j→bLt l[i].name p=true
theorem lessR.zero {l:List Ref} {p:ByteArray} :lessR l p 0:=fun i _ h=>by omega
theorem lessR.next {l:List Ref} {p:ByteArray} {j:Nat} (h:lessR l p j) (hj:j<l.length) (hl:bLt l[j].name p=true):lessR l p (j+1):=fun i hi hij=>by
 by_cases e:i=j
 ·subst e;exact hl
 ·exact h i hi (by omega)
theorem SlR.elemFar {α:Type} {r:Rp α} {w:World} {A:Option Addr} {n c:Nat} {l:List α} {fp:List Nat} (h:SlR r w A n c l fp) (hn:fp.Nodup) (hf:Free w fp) {i:Nat} (hi:i<l.length):
  ∃b o cs f,A=some ⟨b,o,none⟩∧f.Nodup∧r.R w cs l[i] f∧Elem w w fp f b (o+i*r.k) cs∧
   ∀(w':World) (cs':List Value) (y:α) (f':List Nat),Elem w w' fp f b (o+i*r.k) cs'→r.R w' cs' y f'→f'.Nodup→(∀x∈f',x∈f∨x∉fp)→Free w' f'→
    ∃fp',SlR r w' A n c (l.set i y) fp'∧fp'.Nodup∧Free w' fp'∧∀x∈fp',x∈fp∨x∈f':=by
 obtain⟨b0,o0,cs0,ff,hA0,hfn0,hr0,hE0,hcl0⟩:=h.elem hn hf hi;obtain⟨hn',h1,h2,xs,f0,f1,hs,ha,hfe⟩:=id h;obtain⟨c0,cs,c1,g0,g,g1,e1,e2,e3,e4,e5,e6⟩:=ha.split hi;rcases hs.2 with ⟨h0,_⟩|⟨hn0,b,o,hA,hf0,hb,hc⟩
 ·omega
 ·subst hfe;subst hf0;subst e2;subst e1;have hn2:(b::(g0++(g++g1))).Nodup:=hn;have hbn:b∉g0++(g++g1):=(List.nodup_cons.1 hn2).1;have hnd:(g0++(g++g1)).Nodup:=(List.nodup_cons.1 hn2).2;have hn1:=(List.nodup_append.1 hnd).2.1;have hgn:g.Nodup:=(List.nodup_append.1 hn1).1;have hd0: ∀x∈g0,x∉g:=fun x hx hg=>(List.nodup_append.1 hnd).2.2 x hx x (List.mem_append_left _ hg) rfl
  have hd1: ∀x∈g1,x∉g:=fun x hx hg=>(List.nodup_append.1 hn1).2.2 x hg x hx rfl;have hd01: ∀x∈g0,x∉g1:=fun x hx hg=>(List.nodup_append.1 hnd).2.2 x hx x (List.mem_append_right _ hg) rfl;have hcc:=hc.right.left;rw[e3] at hcc;have hE:Elem w w ([b]++(g0++(g++g1))) g b (o+i*r.k) cs:=⟨by simp,fun hm=>hbn (by simp[hm]),fun x hx=>by simp[hx],hcc,fun _ _=>rfl,fun _ _ _ _=>rfl,Only.refl _ _,hf,h.lt⟩
  refine⟨b,o,cs,g,hA,hgn,e5,hE,fun w' cs' y f' he hy hfn' hnew hfree=> ?_⟩;have hlen:=r.len hy;have hlen0:=r.len e5;have hlt0: ∀x∈g0++g1,x<w.heap.size:=fun x hx=>h.lt x (by rcases List.mem_append.1 hx with hx|hx<;>simp[hx]);have hnf: ∀x∈f',x∉g0∧x∉g1∧x≠b:=fun x hx=>by
   rcases hnew x hx with hx|hx
   ·exact⟨fun h=>hd0 x h hx,fun h=>hd1 x h hx,fun e=>hbn (by rw[←e];simp[hx])⟩
   ·exact⟨fun h=>hx (by simp[h]),fun h=>hx (by simp[h]),fun e=>hx (by simp[e])⟩
  refine⟨[b]++(g0++(f'++g1)),⟨by simpa using hn',h1,h2,c0++(cs'++c1),[b],g0++(f'++g1),⟨?_,.inr ⟨hn0,b,o,hA,rfl,Nat.lt_of_lt_of_le hb he.only.size, ?_⟩⟩, ?_,rfl⟩, ?_, ?_, ?_⟩
  ·have:=hs.1;simp only[List.length_append] at this ⊢;omega
  ·have hl0:Cells w' b o c0:=fun j u hu=>by
    have hj:=(List.getElem?_eq_some_iff.1 hu).1;rw[he.other (o+j) (by omega)];exact hc.left j u hu
   have hl1:Cells w' b (o+(c0++cs').length) c1:=fun j u hu=>by
    have hr:=hc.right.right j u hu;rw[he.other _ (by simp only[List.length_append];omega),←hr]
    congr 2
    simp only[List.length_append];omega
   rw[←List.append_assoc];refine Cells.append (Cells.append hl0 ?_) hl1;rw[e3];exact he.cells
  ·refine AllR.set hi e4 e6 hy fun x hx=> ?_;rcases List.mem_append.1 hx with hx|hx
   ·exact he.same x (by simp[hx]) (fun e=>hbn (by rw[←e];simp[hx])) (hd0 x hx)
   ·exact he.same x (by simp[hx]) (fun e=>hbn (by rw[←e];simp[hx])) (hd1 x hx)
  ·show(b::(g0++(f'++g1))).Nodup;refine List.nodup_cons.2 ⟨fun hm=> ?_,List.nodup_append.2 ⟨(List.nodup_append.1 hnd).1,List.nodup_append.2 ⟨hfn',(List.nodup_append.1 hn1).2.1,fun a ha c hc e=> ?_⟩,fun a ha c hc e=> ?_⟩⟩
   ·rcases List.mem_append.1 hm with hm|hm
    ·exact hbn (by simp[hm])
    ·rcases List.mem_append.1 hm with hm|hm
     ·exact(hnf b hm).2.2 rfl
     ·exact hbn (by simp[hm])
   ·subst e;exact(hnf a ha).2.1 hc
   ·subst e;rcases List.mem_append.1 hc with hc|hc
    ·exact(hnf a hc).1 ha
    ·exact hd01 a ha hc
  ·intro x hx;simp only[List.mem_append] at hx;rcases hx with hx|hx|hx|hx
   ·exact he.free x (by simp only[List.mem_append];exact .inl hx)
   ·exact he.free x (by simp[hx])
   ·exact hfree x hx
   ·exact he.free x (by simp[hx])
  ·intro x hx;simp only[List.mem_append] at hx ⊢;rcases hx with hx|hx|hx|hx
   ·exact .inl (.inl hx)
   ·exact .inl (.inr (.inl hx))
   ·exact .inr hx
   ·exact .inl (.inr (.inr (.inr hx)))
theorem jl5 {a b c:List Nat} (h:(a++(b++c)).Nodup):a.Nodup∧b.Nodup∧c.Nodup∧(∀x∈a,x∉b∧x∉c)∧∀x∈b,x∉c:=by
 obtain⟨h0,h12,d0⟩:=List.nodup_append.1 h;obtain⟨h1,h2,d1⟩:=List.nodup_append.1 h12;exact⟨h0,h1,h2,fun x hx=>⟨fun hb=>d0 x hx x (by simp[hb]) rfl,fun hc=>d0 x hx x (by simp[hc]) rfl⟩,fun x hx hc=>d1 x hx x hc rfl⟩
theorem join3 {a b c:List Nat} (h0:a.Nodup) (h1:b.Nodup) (h2:c.Nodup) (d0: ∀x∈a,x∉b∧x∉c) (d1: ∀x∈b,x∉c):(a++(b++c)).Nodup:=
 List.nodup_append.2 ⟨h0,List.nodup_append.2 ⟨h1,h2,fun x hx y hy e=>d1 x hx (e▸hy)⟩,fun x hx y hy e=>by
  subst e;rcases List.mem_append.1 hy with hy|hy
  ·exact(d0 x hx).1 hy
  ·exact(d0 x hx).2 hy⟩
theorem X9 {w:World} {cs:List Value} {m:Jl} {fp:List Nat} (h:Rp.house.R w cs m fp) (hn:fp.Nodup) (hf:Free w fp) {i:Nat} (hi:i<m.Rz.length):
  ∃A0 n0 c0 A1 n1 c1 b o c2 cr f g,cs= [.slice A0 n0 c0,.slice A1 n1 c1,.slice (some ⟨b,o,none⟩) m.Rz.length c2]∧c2≤maxLen∧m.Rz.length≤c2∧f.Nodup∧Free w f∧(∀x∈f,x∈fp)∧b∈fp∧(∀x∈g,x∈fp)∧Rp.repo.R w cr m.Rz[i] f∧Elem w w g f b (o+i*3) cr∧
   ∀(w':World) (cr':List Value) (y:Xq) (f':List Nat),Elem w w' g f b (o+i*3) cr'→Rp.repo.R w' cr' y f'→f'.Nodup→(∀x∈f',x∈f∨x∉fp)→Free w' f'→
    ∃fp',Rp.house.R w' cs { m with Rz:=m.Rz.set i y} fp'∧fp'.Nodup∧Free w' fp'∧∀x∈fp',x∈fp∨x∈f':=by
 obtain⟨A0,n0,c0,f0,A1,n1,c1,f1,A2,n2,c2,f2,rfl,rfl,h0,h1,h2⟩:=h;obtain⟨k0,k1,k2,d0,d1⟩:=jl5 hn;obtain rfl:=h2.1;have hf2:Free w f2:=fun x hx=>hf x (by simp[hx]);obtain⟨b,o,cr,f,rfl,hfn,hR,hE,hcl⟩:=h2.elemFar k2 hf2 hi
 refine⟨A0,n0,c0,A1,n1,c1,b,o,c2,cr,f,f2,rfl,h2.2.2.1,h2.2.1,hfn,fun x hx=>hf2 x (hE.sub x hx),fun x hx=>by simp[hE.sub x hx],by simp[hE.mem],fun x hx=>by simp[hx],hR,hE,fun w' cr' y f' hE' hy hn' hnew hfr=> ?_⟩;obtain⟨fp',j1,j2,j3,j4⟩:=hcl w' cr' y f' hE' hy hn' (fun x hx=>(hnew x hx).imp id fun h hm=>h (by simp[hm])) hfr
 have q0:SlR Rp.int w' A0 n0 c0 m.keys f0:=h0.only hE'.only fun x hx=>(d0 x hx).2;have q1:SlR Rp.int w' A1 n1 c1 m.used f1:=h1.only hE'.only fun x hx=>d1 x hx;have hlt0:=h0.lt;have hlt1:=h1.lt;have hnot: ∀x,x∈f0∨x∈f1→x∉f2→x∉fp':=fun x hx hn hm=>by
  rcases j4 x hm with hm|hm
  ·exact hn hm
  ·rcases hnew x hm with hm|hm
   ·exact hn (hE.sub x hm)
   ·exact hm (by rcases hx with hx|hx<;>simp[hx])
 refine⟨f0++(f1++fp'),⟨A0,n0,c0,f0,A1,n1,c1,f1,_,_,c2,fp',rfl,rfl,q0,q1,by simpa using j1⟩,join3 k0 k1 j2 (fun x hx=>⟨(d0 x hx).1,hnot x (.inl hx) (d0 x hx).2⟩) (fun x hx=>hnot x (.inr hx) (d1 x hx)),fun x hx=> ?_,fun x hx=> ?_⟩
 ·simp only[List.mem_append] at hx;rcases hx with hx|hx|hx
  ·have e:=hE'.only.block x (hlt0 x hx) (d0 x hx).2;rw[e];exact hf x (by simp[hx])
  ·have e:=hE'.only.block x (hlt1 x hx) (d1 x hx);rw[e];exact hf x (by simp[hx])
  ·exact j3 x hx
 ·simp only[List.mem_append] at hx ⊢;rcases hx with hx|hx|hx
  ·exact .inl (.inl hx)
  ·exact .inl (.inr (.inl hx))
  ·rcases j4 x hx with hx|hx
   ·exact .inl (.inr (.inr hx))
   ·exact .inr hx
theorem jdj {w:World} {cr:List Value} {p:Xq} {fp:List Nat} (h:Rp.repo.R w cr p fp) (hn:fp.Nodup) (hf:Free w fp) {k:Nat} (hk:k<p.Fz.length):
  ∃B0 m0 d0 b o c2 cx f g,cr= [.int .i64 p.Az,.slice B0 m0 d0,.slice (some ⟨b,o,none⟩) p.Fz.length c2]∧c2≤maxLen∧p.Fz.length≤c2∧f.Nodup∧Free w f∧(∀x∈f,x∈fp)∧b∈fp∧(∀x∈g,x∈fp)∧Rp.ref.R w cx p.Fz[k] f∧Elem w w g f b (o+k*4) cx∧
   ∀(w':World) (cx':List Value) (y:Ref) (f':List Nat),Elem w w' g f b (o+k*4) cx'→Rp.ref.R w' cx' y f'→f'.Nodup→(∀x∈f',x∈f∨x∉fp)→Free w' f'→
    ∃fp',Rp.repo.R w' cr { p with Fz:=p.Fz.set k y} fp'∧fp'.Nodup∧Free w' fp'∧∀x∈fp',x∈fp∨x∈f':=by
 obtain⟨A0,n0,c0,f0,A2,n2,c2,f2,rfl,rfl,h0,h2⟩:=h;obtain⟨k0,k2,d0⟩:=List.nodup_append.1 hn;obtain rfl:=h2.1;have hf2:Free w f2:=fun x hx=>hf x (by simp[hx]);obtain⟨b,o,cx,f,rfl,hfn,hR,hE,hcl⟩:=h2.elemFar k2 hf2 hk
 refine⟨A0,n0,c0,b,o,c2,cx,f,f2,rfl,h2.2.2.1,h2.2.1,hfn,fun x hx=>hf2 x (hE.sub x hx),fun x hx=>by simp[hE.sub x hx],by simp[hE.mem],fun x hx=>by simp[hx],hR,hE,fun w' cx' y f' hE' hy hn' hnew hfr=> ?_⟩;obtain⟨fp',j1,j2,j3,j4⟩:=hcl w' cx' y f' hE' hy hn' (fun x hx=>(hnew x hx).imp id fun h hm=>h (by simp[hm])) hfr
 have q0:SlR Rp.rule w' A0 n0 c0 p.Uz f0:=h0.only hE'.only fun x hx hm=>d0 x hx x hm rfl;have hlt0:=h0.lt;refine⟨f0++fp',⟨A0,n0,c0,f0,_,_,c2,fp',rfl,rfl,q0,by simpa using j1⟩,List.nodup_append.2 ⟨k0,j2,fun x hx y hy e=> ?_⟩,fun x hx=> ?_,fun x hx=> ?_⟩
 ·subst e;rcases j4 x hy with hm|hm
  ·exact d0 x hx x hm rfl
  ·rcases hnew x hm with hm|hm
   ·exact d0 x hx x (hE.sub x hm) rfl
   ·exact hm (by simp[hx])
 ·rcases List.mem_append.1 hx with hx|hx
  ·rw[hE'.only.block x (hlt0 x hx) fun hm=>d0 x hx x hm rfl];exact hf x (by simp[hx])
  ·exact j3 x hx
 ·rcases List.mem_append.1 hx with hx|hx
  ·exact .inl (by simp[hx])
  ·rcases j4 x hx with hx|hx
   ·exact .inl (by simp[hx])
   ·exact .inr hx
theorem jly {w:World} {cx:List Value} {r:Ref} {fp:List Nat} (h:Rp.ref.R w cx r fp) (hn:fp.Nodup) (hf:Free w fp) {k:Nat} (hk:k<r.Vz.length):
  ∃b o c2 cv f,cx= [.string r.name,.bool r.guard,.int .i64 r.count,.slice (some ⟨b,o,none⟩) r.Vz.length c2]∧c2≤maxLen∧r.Vz.length≤c2∧f.Nodup∧Free w f∧(∀x∈f,x∈fp)∧b∈fp∧(Rp.slice Rp.file).R w cv r.Vz[k] f∧Elem w w fp f b (o+k) cv∧
   ∀(w':World) (cv':List Value) (y:List File) (f':List Nat),Elem w w' fp f b (o+k) cv'→(Rp.slice Rp.file).R w' cv' y f'→f'.Nodup→(∀x∈f',x∈f∨x∉fp)→Free w' f'→
    ∃fp',Rp.ref.R w' cx { r with Vz:=r.Vz.set k y} fp'∧fp'.Nodup∧Free w' fp'∧∀x∈fp',x∈fp∨x∈f':=by
 obtain⟨A2,n2,c2,f2,rfl,rfl,h2⟩:=h;obtain rfl:=h2.1;obtain⟨b,o,cv,f,rfl,hfn,hR,hE,hcl⟩:=h2.elemFar hn hf hk;have e1:o+k*(Rp.slice Rp.file).k=o+k:=by show o+k*1=o+k;omega
 rw[e1] at hE hcl;refine⟨b,o,c2,cv,f,rfl,h2.2.2.1,h2.2.1,hfn,fun x hx=>hf x (hE.sub x hx),hE.sub,hE.mem,hR,hE,fun w' cv' y f' hE' hy hn' hnew hfr=> ?_⟩;obtain⟨fp',j1,j2,j3,j4⟩:=hcl w' cv' y f' hE' hy hn' hnew hfr;exact⟨fp',⟨_,_,c2,fp',rfl,rfl,by simpa using j1⟩,j2,j3,j4⟩
theorem jgz {w:World} {cs:List Value} {m:Jl} {fp:List Nat} (h:Rp.house.R w cs m fp) (hn:fp.Nodup) (hf:Free w fp) {i:Nat} (hi:i<m.used.length):
  ∃A0 n0 c0 b o c1 A2 n2 c2,cs= [.slice A0 n0 c0,.slice (some ⟨b,o,none⟩) m.used.length c1,.slice A2 n2 c2]∧c1≤maxLen∧b∈fp∧(∀v,∃v0,w.cell? ⟨b,o+i,none⟩=some v0∧w.frozen? ⟨b,o+i,none⟩=false∧Rp.house.R (w.setCell ⟨b,o+i,none⟩ (.int .i64 v)) cs { m with used:=m.used.set i v} fp∧Free (w.setCell ⟨b,o+i,none⟩ (.int .i64 v)) fp):=by
 obtain⟨A0,n0,c0,f0,A1,n1,c1,f1,A2,n2,c2,f2,rfl,rfl,h0,h1,h2⟩:=h;obtain⟨k0,k1,k2,d0,d1⟩:=jl5 hn;obtain rfl:=h1.1;have hf1:Free w f1:=fun x hx=>hf x (by simp[hx]);obtain⟨b,o,cv,f,rfl,hfn,hR,hE,hcl⟩:=h1.elem k1 hf1 hi;obtain⟨rfl,rfl⟩:=hR;have e1:o+i*Rp.int.k=o+i:=by show o+i*1=o+i;omega
 rw[e1] at hE hcl;refine⟨A0,n0,c0,b,o,c1,A2,n2,c2,rfl,h1.2.2.1,by simp[hE.mem],fun v=>⟨_,hE.cells.at0,hE.frozen _, ?_,hf.setCell _ rfl _⟩⟩;have hE':=hE.put (j:=0) (by simp) (.int .i64 v);rw[Nat.add_zero] at hE';have q1:=hcl _ [.int .i64 v] v hE' ⟨rfl,rfl⟩
 refine⟨A0,n0,c0,f0,_,_,c1,f1,A2,n2,c2,f2,rfl,rfl,h0.only hE'.only fun x hx=>(d0 x hx).1,by simpa using q1,h2.only hE'.only fun x hx hm=>d1 x hm hx⟩
theorem jg0 {w:World} {cs:List Value} {m:Jl} {fp:List Nat} (h:Rp.house.R w cs m fp) (hn:fp.Nodup) (hf:Free w fp) {i:Nat} (hi:i<m.keys.length):
  ∃b o c0 A1 n1 c1 A2 n2 c2,cs= [.slice (some ⟨b,o,none⟩) m.keys.length c0,.slice A1 n1 c1,.slice A2 n2 c2]∧c0≤maxLen∧b∈fp∧(∀v,∃v0,w.cell? ⟨b,o+i,none⟩=some v0∧w.frozen? ⟨b,o+i,none⟩=false∧Rp.house.R (w.setCell ⟨b,o+i,none⟩ (.int .i64 v)) cs { m with keys:=m.keys.set i v} fp∧Free (w.setCell ⟨b,o+i,none⟩ (.int .i64 v)) fp):=by
 obtain⟨A0,n0,c0,f0,A1,n1,c1,f1,A2,n2,c2,f2,rfl,rfl,h0,h1,h2⟩:=h;obtain⟨k0,k1,k2,d0,d1⟩:=jl5 hn;obtain rfl:=h0.1;have hf0:Free w f0:=fun x hx=>hf x (by simp[hx]);obtain⟨b,o,cv,f,rfl,hfn,hR,hE,hcl⟩:=h0.elem k0 hf0 hi;obtain⟨rfl,rfl⟩:=hR;have e1:o+i*Rp.int.k=o+i:=by show o+i*1=o+i;omega
 rw[e1] at hE hcl;refine⟨b,o,c0,A1,n1,c1,A2,n2,c2,rfl,h0.2.2.1,by simp[hE.mem],fun v=>⟨_,hE.cells.at0,hE.frozen _, ?_,hf.setCell _ rfl _⟩⟩;have hE':=hE.put (j:=0) (by simp) (.int .i64 v);rw[Nat.add_zero] at hE';have q1:=hcl _ [.int .i64 v] v hE' ⟨rfl,rfl⟩
 exact⟨_,_,c0,f0,A1,n1,c1,f1,A2,n2,c2,f2,rfl,rfl,by simpa using q1,h1.only hE'.only fun x hx hm=>(d0 x hm).1 hx,h2.only hE'.only fun x hx hm=>(d0 x hm).2 hx⟩
end Go.Proofs.YtlkoaobaoffpaaaGreatDoor
