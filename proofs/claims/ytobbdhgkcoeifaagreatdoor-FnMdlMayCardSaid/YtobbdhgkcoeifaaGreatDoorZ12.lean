/- Lemmas and walks, joined by program. -/
import Derived.Test.YtobbdhgkcoeifaaGreatDoorZ4
import Derived.Test.YtobbdhgkcoeifaaGreatDoorZ10
namespace Go.Proofs.YtobbdhgkcoeifaaGreatDoor
open Go.RowKit
set_option maxHeartbeats 8000000
set_option maxRecDepth 100000
set_option linter.unusedSimpArgs false
set_option linter.unusedVariables false
theorem OwS.typed {α:Type} {r:Rp α} {e:TypeId} {w:World} {l:List α} {fp:List Nat} {g n c:Nat} (h:OwS r e w (.slice (some ⟨g,0,none⟩) n c) l fp): ∃cur,w.heap[g]? =some (.cells cur e (0,0)):=by
 obtain⟨xs,f1,ho,_,_⟩:=h;rcases ho.2 with ⟨h,_⟩|⟨g',cap,cur,h,_,hg,_⟩
 ·cases h
 ·cases h;exact⟨cur,hg⟩
theorem jkz {w:World} {ch:List Value} {m:Jl} {fp:List Nat} (hh:Rp.houseO.R w ch m fp) (hn:fp.Nodup) {i k u:Nat} (hi:i<m.Rz.length) (hk:k<m.Rz[i].Fz.length) (hu:u<m.used.length):
  ∃A0 c0 bU oU c1 b c2 B0 m0 d0 g cap curg v3 f3,ch= [.slice A0 m.keys.length c0,.slice (some ⟨bU,oU,none⟩) m.used.length c1,.slice (some ⟨b,0,none⟩) m.Rz.length c2]∧
   Cells w b (i*3) [.int .i64 m.Rz[i].Az,.slice B0 m0 d0,.slice (some ⟨g,0,none⟩) m.Rz[i].Fz.length cap]∧
   Cells w g (k*4) [.string m.Rz[i].Fz[k].name,.bool m.Rz[i].Fz[k].guard,.int .i64 m.Rz[i].Fz[k].count,v3]∧
   OwS (Rp.slice Rp.file) 34 w v3 m.Rz[i].Fz[k].Vz f3∧f3.Nodup∧w.heap[g]? =some (.cells curg 52 (0,0))∧
   w.cell? ⟨bU,oU+u,none⟩=some (.int .i64 m.used[u])∧bU∈fp∧g∈fp∧(∀z∈f3,z∈fp)∧bU≠g∧bU∉f3∧g∉f3∧b∈fp∧b≠bU∧b≠g∧b∉f3∧
   ∀(W':World) (v'':Value) (new cnt:Int) (vs:List (List File)) (f':List Nat),w.heap.size≤W'.heap.size→(∀z,z<w.heap.size→z≠bU→z≠g→z∉f3→W'.heap[z]? =w.heap[z]?)→
    (∀j,j<k*4∨k*4+4≤j→W'.cell? ⟨g,j,none⟩=w.cell? ⟨g,j,none⟩)→Cells W' g (k*4) [.string m.Rz[i].Fz[k].name,.bool m.Rz[i].Fz[k].guard,.int .i64 cnt,v'']→
    Rp.ref.R W' [.string m.Rz[i].Fz[k].name,.bool m.Rz[i].Fz[k].guard,.int .i64 cnt,v''] ⟨m.Rz[i].Fz[k].name,m.Rz[i].Fz[k].guard,cnt,vs⟩ f'→
    (∀j,j≠oU+u→W'.cell? ⟨bU,j,none⟩=w.cell? ⟨bU,j,none⟩)→W'.cell? ⟨bU,oU+u,none⟩=some (.int .i64 new)→
    ∃fp',Rp.house.R W' ch ⟨m.keys,m.used.set u new,m.Rz.set i { m.Rz[i] with Fz:=m.Rz[i].Fz.set k ⟨m.Rz[i].Fz[k].name,m.Rz[i].Fz[k].guard,cnt,vs⟩}⟩ fp'∧∀z∈fp',z∈fp∨z∈f':=by
 obtain⟨A0,n0,c0,f0,A1,n1,c1,f1,b,c2,cur,cr,f,rfl,h0,h1,hbt,hbm,hbl,hbf,hfn,hsub,hn1,hd1,hd0,hcr,hR,hcl1⟩:=jb9 hh hn hi;obtain rfl:=h0.1;obtain rfl:=h1.1;have hR0:=hR;obtain⟨B0,m0,d0,g0,g,cap,cf,f3,rfl,hs0,hgf,hgl,hg3,hn3,hs3,hs30,hcf,hF,hcl2⟩:=jhl hR hfn hk;obtain⟨v3,rfl,hO3⟩:=hF;obtain⟨bU,oU,cs,fU,rfl,hbU,hbUf,_,_,hbUl,hcU,hRU,hcl3⟩:=h1.upd hn1 hu;obtain⟨rfl,rfl⟩:=hRU
 have hcU0:=hcU.at0;have hk1:Rp.int.k=1:=rfl;rw[hk1,Nat.mul_one] at hcU0;obtain⟨curg,hgt⟩: ∃curg,w.heap[g]? =some (.cells curg 52 (0,0)):=by
  obtain⟨_,_,_,_,v,_,he,_,_,hO⟩:=hR0;simp only[List.cons.injEq,and_true] at he;obtain⟨_,_,rfl⟩:=he;exact hO.typed
 have hgb:g≠b:=fun e=>hbf (e▸hgf);have hUb:bU≠b:=(hd1 bU hbU).2.1;have hUg:bU≠g:=fun e=>(hd1 bU hbU).2.2 (e▸hgf);have hU3:bU∉f3:=fun h=>(hd1 bU hbU).2.2 (hs3 _ h);have hb3:b∉f3:=fun h=>hbf (hs3 _ h);refine⟨A0,c0,bU,oU,c1,b,c2,B0,m0,d0,g,cap,curg,v3,f3,rfl,hcr,hcf,hO3,hn3,hgt,hcU0,(hd1 bU hbU).1,hsub _ hgf,fun z hz=>hsub _ (hs3 z hz),hUg,hU3,hg3,hbm,fun e=>hUb e.symm,fun e=>hgb e.symm,hb3, ?_⟩
 intro W' v'' new cnt vs f' hsz hblk hg1 hg2 hg3' hu1 hu2;have hlt: ∀z∈fp,z<w.heap.size:=Rp.houseO.lt hh;have hbW:W'.heap[b]? =w.heap[b]? :=hblk b hbl (fun e=>hUb e.symm) (fun e=>hgb e.symm) hb3;obtain⟨f'',hf'',hm2⟩:=hcl2 W' _ _ f' hg1 (Nat.lt_of_lt_of_le hgl hsz) hg2 hg3' fun z hz hzg hz3=>hblk z (hlt z (hsub z hz)) (fun e=>(hd1 bU hbU).2.2 (e▸hz)) hzg hz3
 have hus:=hcl3 W' [.int .i64 new] new (fun j hj=>hu1 j (by rw[hk1] at hj;omega)) (Nat.lt_of_lt_of_le hbUl hsz) (fun j v hv=>by
  cases j with
  |zero=>simp at hv;subst hv;rw[hk1,Nat.mul_one];exact hu2
  |succ j=>simp at hv) ⟨rfl,rfl⟩ fun z hz hzU _=>hblk z (hlt z (hd1 z hz).1) hzU (fun e=>(hd1 z hz).2.2 (e▸hgf)) (fun h=>(hd1 z hz).2.2 (hs3 _ h))
 obtain⟨fq,hq,hqm⟩:=hcl1 W' _ _ f'' _ _ (fun j _=>World.cell?_of_block (a:=⟨b,j,none⟩) hbW) (Nat.lt_of_lt_of_le hbl hsz) (hcr.keep hbW) hf'' hus fun z hz hzb hzf hz1=>hblk z (hlt z hz) (fun e=>hz1 (e▸hbU)) (fun e=>hzf (e▸hgf)) (fun h=>hzf (hs3 _ h));refine⟨fq,hq,fun z hz=> ?_⟩;rcases hqm z hz with hz|hz|hz
 ·exact .inl hz
 ·rcases hm2 z hz with hz|hz
  ·exact .inl (hsub z hz)
  ·exact .inr hz
 ·exact .inl (hd1 z hz).1
structure jlo (w:World) (ch:List Value) (m:Jl) (fp:List Nat) (p:Xq) (x:Ref) (i k u:Nat) (used:Int) (bU oU b g:Nat) (v3:Value) (f3:List Nat):Prop where
 vers:OwS (Rp.slice Rp.file) 34 w v3 x.Vz f3
 nod:f3.Nodup
 typ: ∃cur,w.heap[g]? =some (.cells cur 52 (0,0))
 cells:Cells w g (k*4) [.string x.name,.bool x.guard,.int .i64 x.count,v3]
 cu:w.cell? ⟨bU,oU+u,none⟩=some (.int .i64 used)
 uin:bU∈fp
 gin:g∈fp
 f3in: ∀z∈f3,z∈fp
 ug:bU≠g
 u3:bU∉f3
 g3:g∉f3
 bin:b∈fp
 bu:b≠bU
 bg:b≠g
 b3:b∉f3
 old: ∀z∈fp,z<w.heap.size
 close: ∀(W':World) (v'':Value) (new cnt:Int) (vs:List (List File)) (f':List Nat),w.heap.size≤W'.heap.size→(∀z,z<w.heap.size→z≠bU→z≠g→z∉f3→W'.heap[z]? =w.heap[z]?)→
    (∀j,j<k*4∨k*4+4≤j→W'.cell? ⟨g,j,none⟩=w.cell? ⟨g,j,none⟩)→Cells W' g (k*4) [.string x.name,.bool x.guard,.int .i64 cnt,v'']→
    Rp.ref.R W' [.string x.name,.bool x.guard,.int .i64 cnt,v''] ⟨x.name,x.guard,cnt,vs⟩ f'→
    (∀j,j≠oU+u→W'.cell? ⟨bU,j,none⟩=w.cell? ⟨bU,j,none⟩)→W'.cell? ⟨bU,oU+u,none⟩=some (.int .i64 new)→
    ∃fp',Rp.house.R W' ch ⟨m.keys,m.used.set u new,m.Rz.set i { p with Fz:=p.Fz.set k ⟨x.name,x.guard,cnt,vs⟩}⟩ fp'∧∀z∈fp',z∈fp∨z∈f'
theorem jlq {w:World} {ch:List Value} {m:Jl} {fp:List Nat} (hh:Rp.houseO.R w ch m fp) (hn:fp.Nodup) {i k u:Nat} (hi:i<m.Rz.length) (hk:k<m.Rz[i].Fz.length) (hu:u<m.used.length):
  ∃A0 c0 bU oU c1 b c2 B0 m0 d0 g cap v3 f3,ch= [.slice A0 m.keys.length c0,.slice (some ⟨bU,oU,none⟩) m.used.length c1,.slice (some ⟨b,0,none⟩) m.Rz.length c2]∧
   Cells w b (i*3) [.int .i64 m.Rz[i].Az,.slice B0 m0 d0,.slice (some ⟨g,0,none⟩) m.Rz[i].Fz.length cap]∧jlo w ch m fp m.Rz[i] m.Rz[i].Fz[k] i k u m.used[u] bU oU b g v3 f3:=by
 obtain⟨A0,c0,bU,oU,c1,b,c2,B0,m0,d0,g,cap,curg,v3,f3,h1,h2,h3,h4,h5,h6,h7,h8,h9,h10,h11,h12,h13,h14,h15,h16,h17,h18⟩:=jkz hh hn hi hk hu;exact⟨A0,c0,bU,oU,c1,b,c2,B0,m0,d0,g,cap,v3,f3,h1,h2,h4,h5,⟨curg,h6⟩,h3,h7,h8,h9,h10,h11,h12,h13,h14,h15,h16,h17,Rp.houseO.lt hh,h18⟩
def Wrote (w:World) (ch:List Value) (fp:List Nat) (m':Jl) (k:Int) (e:Ending) (w':World):Prop:=
 e= .returned (.int .i64 k)∧(∃fp',Rp.house.R w' ch m' fp'∧Clear w fp fp' w')∧Only fp w w'
theorem Wrote.drew {w W:World} {ch:List Value} {fp:List Nat} {m':Jl} {k:Int} {e:Ending} (h:Wrote w ch fp m' k e W):Wrote w ch fp m' k e W.drew:=by
 obtain⟨he,⟨f,hf,hcl⟩,ho⟩:=h;exact⟨he,⟨f,Rp.house.keep hf fun _ _=>rfl,hcl⟩,ho.drew⟩
theorem jam {w W:World} {ch:List Value} {m:Jl} {fp:List Nat} (k:Int) (hh:Rp.houseO.R w ch m fp) (hB:Below w.heap.size w W):Wrote w ch fp m k (.returned (.int .i64 k)) W:=by
 obtain⟨f,hf,hsub⟩:=V8.2 _ _ _ _ (Rp.houseO.below hh hB nle);exact⟨rfl,⟨f,hf,fun z _ _ _ hn hm=>hn (hsub.subset hm)⟩,Only.of_below hB _⟩
theorem written {w:World} {ch:List Value} {m:Jl} {fp:List Nat} {p:Xq} {x:Ref} {i k u:Nat} {used:Int} {bU oU b g:Nat} {v3:Value} {f3:List Nat} (h:jlo w ch m fp p x i k u used bU oU b g v3 f3) {W9 w12:World} {new:Int} {o:Obj} {v':Value} {A n c:_} {vs:List (List File)} {fr:List Nat}
  (hB:Below w.heap.size w W9) (hg:(((W9.setCell ⟨bU,oU+u,none⟩ (.int .i64 new)).setCell ⟨g,k*4+2,none⟩ (.int .i64 (x.count+1))).alloc o).grownBy w12 v3.ownBlock) (hs:SlR (Rp.slice Rp.file) w12 A n c vs fr) (hga: ∀z cur t,w12.heap[z]? =some (.cells cur t (0,0))→t≠34→z<w.heap.size→z∉f3→z∉fr):
  Wrote w ch fp ⟨m.keys,m.used.set u new,m.Rz.set i { p with Fz:=p.Fz.set k ⟨x.name,x.guard,x.count+1,vs⟩}⟩ 1 (.returned (.int .i64 1)) ((w12.setCell ⟨g,k*4+3,none⟩ v').setCell ⟨g,k*4+3,none⟩ (.slice A n c)):=by
 have hsz9:=hB.size;have hUl:=h.old _ h.uin;have hgl:=h.old _ h.gin;have hv: ∀z,v3.ownBlock=some z→z∈f3:=fun z hz=>by
  obtain⟨xs,g1,_,_,rfl⟩:=h.vers;exact List.mem_append_left _ (by unfold Vm;rw[hz];simp)
 have hsz:w.heap.size≤w12.heap.size:=by have:=hg.size;simp[World.setCell] at this;omega
 have h12: ∀z,z<w.heap.size→z∉f3→w12.heap[z]? =((W9.setCell ⟨bU,oU+u,none⟩ (.int .i64 new)).setCell ⟨g,k*4+2,none⟩ (.int .i64 (x.count+1))).heap[z]? :=fun z hz hm=>by
  rw[hg.block z (by simp[World.setCell];omega) fun e=>hm (hv z e.symm)];exact Below.heap_alloc _ _ _ (by simp[World.setCell];omega)
 have hU12:w12.heap[bU]? =(W9.setCell ⟨bU,oU+u,none⟩ (.int .i64 new)).heap[bU]? :=(h12 bU hUl h.u3).trans (Below.heap_setCell _ _ _ _ h.ug);have hg12:w12.heap[g]? =((W9.setCell ⟨bU,oU+u,none⟩ (.int .i64 new)).setCell ⟨g,k*4+2,none⟩ (.int .i64 (x.count+1))).heap[g]? :=h12 g hgl h.g3
 have hblk: ∀z,z<w.heap.size→z≠bU→z≠g→z∉f3→w12.heap[z]? =w.heap[z]? :=fun z hz hzU hzg hz3=>(h12 z hz hz3).trans ((Below.heap_setCell _ _ _ _ hzg).trans ((Below.heap_setCell _ _ _ _ hzU).trans (hB.block z hz)));obtain⟨cur,hcur⟩:=h.typ
 have hgr:g∉fr:=hga g _ _ (hg12.trans (Jd (((Below.heap_setCell _ _ _ _ fun e=>h.ug e.symm).trans (hB.block g hgl)).trans hcur) _)) (by decide) hgl h.g3;have hc9:Cells (W9.setCell ⟨bU,oU+u,none⟩ (.int .i64 new)) g (k*4) [.string x.name,.bool x.guard,.int .i64 x.count,v3]:=(h.cells.keep (hB.block g hgl)).keep (Below.heap_setCell _ _ _ _ fun e=>h.ug e.symm)
 have hc11:=hc9.put (j:=2) (by simp) (.int .i64 (x.count+1));have hc13:=((hc11.keep hg12).put (j:=3) (by simp) v').put (j:=3) (by simp) (.slice A n c)
 have hs':=(hs.keep (w':=w12.setCell ⟨g,k*4+3,none⟩ v') fun z hz=>Below.heap_setCell _ _ _ _ (by rintro rfl;exact hgr hz)).keep (w':=(w12.setCell ⟨g,k*4+3,none⟩ v').setCell ⟨g,k*4+3,none⟩ (.slice A n c)) fun z hz=>Below.heap_setCell _ _ _ _ (by rintro rfl;exact hgr hz)
 have k1: ∀z,z<w.heap.size→z≠bU→z≠g→z∉f3→((w12.setCell ⟨g,k*4+3,none⟩ v').setCell ⟨g,k*4+3,none⟩ (.slice A n c)).heap[z]? =w.heap[z]? :=fun z hz hzU hzg hz3=>(Below.heap_setCell _ _ _ _ hzg).trans ((Below.heap_setCell _ _ _ _ hzg).trans (hblk z hz hzU hzg hz3))
 have hclose: ∃fq,Rp.house.R ((w12.setCell ⟨g,k*4+3,none⟩ v').setCell ⟨g,k*4+3,none⟩ (.slice A n c)) ch ⟨m.keys,m.used.set u new,m.Rz.set i { p with Fz:=p.Fz.set k ⟨x.name,x.guard,x.count+1,vs⟩}⟩ fq∧∀z∈fq,z∈fp∨z∈fr:=by
  refine h.close _ (.slice A n c) new (x.count+1) vs fr (by simpa [World.setCell] using hsz) k1 (fun j hj=> ?_) hc13 ⟨A,n,c,fr,rfl,rfl,hs'⟩ (fun j hj=> ?_) ?_
  ·rw[World.cell?_setCell_other _ _ _ _ (by simp only[ne_eq,Addr.mk.injEq];omega),World.cell?_setCell_other _ _ _ _ (by simp only[ne_eq,Addr.mk.injEq];omega),World.cell?_of_block (a:=⟨g,j,none⟩) hg12,World.cell?_setCell_other _ _ _ _ (by simp only[ne_eq,Addr.mk.injEq];omega),World.cell?_setCell_other _ _ _ _ (by simp only[ne_eq,Addr.mk.injEq];intro e;exact h.ug e.1)]
   exact World.cell?_of_block (a:=⟨g,j,none⟩) (hB.block g hgl)
  ·rw[World.cell?_setCell_other _ _ _ _ (by simp only[ne_eq,Addr.mk.injEq];intro e;exact h.ug e.1.symm),World.cell?_setCell_other _ _ _ _ (by simp only[ne_eq,Addr.mk.injEq];intro e;exact h.ug e.1.symm),World.cell?_of_block (a:=⟨bU,j,none⟩) hU12,World.cell?_setCell_other _ _ _ _ (by simp only[ne_eq,Addr.mk.injEq];omega)];exact World.cell?_of_block (a:=⟨bU,j,none⟩) (hB.block bU hUl)
  ·rw[World.cell?_setCell_other _ _ _ _ (by simp only[ne_eq,Addr.mk.injEq];intro e;exact h.ug e.1.symm),World.cell?_setCell_other _ _ _ _ (by simp only[ne_eq,Addr.mk.injEq];intro e;exact h.ug e.1.symm),World.cell?_of_block (a:=⟨bU,oU+u,none⟩) hU12];exact World.cell?_setCell_same W9 _ _ ((World.cell?_of_block (a:=⟨bU,oU+u,none⟩) (hB.block bU hUl)).trans h.cu)
 obtain⟨fq,hq,hqm⟩:=hclose;refine⟨rfl,⟨fq,hq,fun z cur' hz hzl hzn hm=> ?_⟩, ?_⟩
 ·rcases hqm z hm with hm|hm
  ·exact hzn hm
  ·have hzg:z≠g:=fun e=>hzn (e▸h.gin);exact hga z cur' _ (((Below.heap_setCell _ _ _ _ hzg).trans (Below.heap_setCell _ _ _ _ hzg)).symm.trans hz) (by decide) hzl (fun h3=>hzn (h.f3in z h3)) hm
 ·refine Only.setCell (Only.setCell ?_ (.inl h.gin) _) (.inl h.gin) _;exact⟨hg.os.trans hB.os,hg.tape.trans hB.tape,hg.output.trans hB.output,hsz,fun z hz hm=>hblk z hz (fun e=>hm (e▸h.uin)) (fun e=>hm (e▸h.gin)) (fun e=>hm (h.f3in z e))⟩
theorem jfq (l:List (List File)) (x:List File) (n:Nat) (h:l.length=n):jgu (l++ [x])=(l++ [x]).drop (n+1 - 3):=by
 unfold jgu;rw[List.length_append,h];rfl
theorem jnu {W Wi:World} {v3 v':Value} {l:List (List File)} {xs:List Value} {f1 f5:List Nat} {A5:Option Addr} {n5 c5 n base:Nat} {files:List File} (ha:AllR (Rp.slice Rp.file) W xs l f1) (hn:(Vm v3++f1).Nodup) (hg:W.grownBy Wi v3.ownBlock)
  (h5:SlR Rp.file W A5 n5 c5 files f5) (hd: ∀z∈f5,z∉Vm v3) (ho:Wi.ownsRow base 34 1 v' (n+1) (xs++ [.slice A5 n5 c5])) (hl:l.length=n):
  ∃g' cap fr,v'= .slice (some ⟨g',0,none⟩) (n+1) cap∧SlR (Rp.slice Rp.file) Wi (some ⟨g',0,none⟩) (n+1) cap (l++ [files]) fr∧(∀z cur t,Wi.heap[z]? =some (.cells cur t (0,0))→t≠34→z∉f1→z∉f5→z∉fr)∧n+1≤cap∧cap≤maxLen:=by
 have hv: ∀z∈f1,v3.ownBlock≠some z:=fun z hz e=>(List.nodup_append.1 hn).2.2 z (by unfold Vm;rw[e];simp) z hz rfl;have hk1:=ha.keep (w':=Wi) fun z hz=>hg.block z (ha.lt z hz) fun e=>hv z hz e.symm;have h5':=h5.keep (w':=Wi) fun z hz=>hg.block z (h5.lt z hz) fun e=>hd z hz (by unfold Vm;rw[←e];simp)
 have hal:AllR (Rp.slice Rp.file) Wi (xs++ [.slice A5 n5 c5]) (l++ [files]) (f1++f5):=hk1.snoc ⟨A5,n5,c5,rfl,h5'⟩;obtain⟨g',cap,rfl,hc1,hc2⟩:=jav ho (by omega);have hlen:(l++ [files]).length=n+1:=by simp;omega
 have ho':=ho;rw[←hlen] at ho;obtain⟨A,c,f0,hvv,hs,h0,_,_⟩:=SlR.of_owns (r:=Rp.slice Rp.file) ho hal;rw[hlen] at hvv hs;cases hvv;refine⟨g',cap,_,rfl,hs,fun z cur t hgt hne hg1 hg5 hm=> ?_,hc1,hc2⟩;rcases List.mem_append.1 hm with hm|hm
 ·have hob:=(h0 z hm).1;simp only[Value.ownBlock,Option.some.injEq] at hob;subst hob;rcases ho'.2 with ⟨h,_⟩|⟨g2,cap2,cur',h,_,hg',_⟩
  ·cases h
  ·cases h;rw[hgt] at hg';cases hg';exact hne rfl
 ·rcases List.mem_append.1 hm with hm|hm
  ·exact hg1 hm
  ·exact hg5 hm
def Layd (w:World) (ch:List Value) (fp:List Nat) (m':Jl) (e:Ending) (w':World):Prop:=
 e= .returned (.agg ch.toArray)∧(∃fp',Rp.house.R w' ch m' fp')∧Only fp w w'
def jlz (w:World) (g o:Nat) (a b c d:Value):World:=(((w.setCell ⟨g,o,none⟩ a).setCell ⟨g,o+1,none⟩ b).setCell ⟨g,o+2,none⟩ c).setCell ⟨g,o+3,none⟩ d
theorem jci {w:World} {g o z:Nat} {a b c d:Value} (h:z≠g):(jlz w g o a b c d).heap[z]? =w.heap[z]? :=
 (Below.heap_setCell _ _ _ _ h).trans ((Below.heap_setCell _ _ _ _ h).trans ((Below.heap_setCell _ _ _ _ h).trans (Below.heap_setCell _ _ _ _ h)))
theorem joe {w:World} {g o j:Nat} {a b c d:Value} (h:j<o∨o+4≤j):(jlz w g o a b c d).cell? ⟨g,j,none⟩=w.cell? ⟨g,j,none⟩:=by
 unfold jlz;rw[World.cell?_setCell_other _ _ _ _ (by simp only[ne_eq,Addr.mk.injEq];omega),World.cell?_setCell_other _ _ _ _ (by simp only[ne_eq,Addr.mk.injEq];omega),World.cell?_setCell_other _ _ _ _ (by simp only[ne_eq,Addr.mk.injEq];omega),World.cell?_setCell_other _ _ _ _ (by simp only[ne_eq,Addr.mk.injEq];omega)]
theorem jms {w:World} {g o:Nat} {a b c d x0 x1 x2 x3:Value} (h:Cells w g o [x0,x1,x2,x3]):Cells (jlz w g o a b c d) g o [a,b,c,d]:=by
 have h1:=(((h.put (j:=0) (by simp) a).put (j:=1) (by simp) b).put (j:=2) (by simp) c).put (j:=3) (by simp) d;exact h1
theorem layd {w W3 w4 w5 w7 w9:World} {ch:List Value} {m:Jl} {fp:List Nat} {p:Xq} {x:Ref} {i k u:Nat} {used:Int} {bU oU b g b8 res:Nat} {v3:Value} {f3:List Nat} (h:jlo w ch m fp p x i k u used bU oU b g v3 f3) {new:Int} {A:Option Addr} {n c:Nat} {vs:List (List File)} {fr:List Nat}
  (hB:Below w.heap.size w W3) (hg:W3.grownBy w4 v3.ownBlock) (hs:SlR (Rp.slice Rp.file) w4 A n c vs fr) (hfr: ∀z∈fr,z∈f3∨(w.heap.size≤z∧z≠b8∧z≠res)) (h5:Only [b8] w4 w5) (hb8:w.heap.size≤b8)
  (h7:Below (jlz w5 g (k*4) (.string x.name) (.bool x.guard) (.int .i64 (x.count+1)) (.slice A n c)).heap.size (jlz w5 g (k*4) (.string x.name) (.bool x.guard) (.int .i64 (x.count+1)) (.slice A n c)) w7)
  (h9:Only [res] (w7.setCell ⟨bU,oU+u,none⟩ (.int .i64 new)) w9) (hres:w.heap.size≤res):
  (∃fp',Rp.house.R w9 ch ⟨m.keys,m.used.set u new,m.Rz.set i { p with Fz:=p.Fz.set k ⟨x.name,x.guard,x.count+1,vs⟩}⟩ fp')∧Only fp w w9:=by
 have hUl:=h.old _ h.uin;have hgl:=h.old _ h.gin;have s3:=hB.size;have s4:=hg.size;have s5:=h5.size;have s6:(jlz w5 g (k*4) (.string x.name) (.bool x.guard) (.int .i64 (x.count+1)) (.slice A n c)).heap.size=w5.heap.size:=by simp[jlz,World.setCell]
 have s7:=h7.size;have s9:w7.heap.size≤w9.heap.size:=by have:=h9.size;simpa [World.setCell] using this
 have hv: ∀z,v3.ownBlock=some z→z∈f3:=fun z hz=>by
  obtain⟨xs,g1,_,_,rfl⟩:=h.vers;exact List.mem_append_left _ (by unfold Vm;rw[hz];simp)
 have k5: ∀z,z<w.heap.size→z∉f3→w5.heap[z]? =w.heap[z]? :=fun z hz hm=>
  (h5.block z (by omega) (by simp;omega)).trans ((hg.block z (by omega) fun e=>hm (hv z e.symm)).trans (hB.block z hz))
 have k79: ∀z,z<w7.heap.size→z≠bU→z≠res→w9.heap[z]? =w7.heap[z]? :=fun z hz hzU hzr=>
  (h9.block z (by simpa [World.setCell] using hz) (by simp[hzr])).trans (Below.heap_setCell _ _ _ _ hzU)
 have kg:w9.heap[g]? =(jlz w5 g (k*4) (.string x.name) (.bool x.guard) (.int .i64 (x.count+1)) (.slice A n c)).heap[g]? :=
  (k79 g (by omega) (fun e=>h.ug e.symm) (by omega)).trans (h7.block g (by omega))
 have kU:w9.heap[bU]? =(w7.setCell ⟨bU,oU+u,none⟩ (.int .i64 new)).heap[bU]? :=h9.block bU (by simp[World.setCell];omega) (by simp;omega);have kU7:w7.heap[bU]? =w.heap[bU]? :=(h7.block bU (by omega)).trans ((jci h.ug).trans (k5 bU hUl h.u3));have hblk: ∀z,z<w.heap.size→z≠bU→z≠g→z∉f3→w9.heap[z]? =w.heap[z]? :=fun z hz hzU hzg hz3=>
  (k79 z (by omega) hzU (by omega)).trans ((h7.block z (by omega)).trans ((jci hzg).trans (k5 z hz hz3)))
 have hc9:Cells w9 g (k*4) [.string x.name,.bool x.guard,.int .i64 (x.count+1),.slice A n c]:=(jms (h.cells.keep (k5 g hgl h.g3))).keep kg;have hs9:SlR (Rp.slice Rp.file) w9 A n c vs fr:=hs.keep fun z hz=>by
  have hz4:=hs.lt z hz;have hne:z≠b8∧z≠g∧z≠bU∧z≠res:=by
   rcases hfr z hz with h3|⟨h1,h2,h3⟩
   ·have:=h.old _ (h.f3in z h3);exact⟨by omega,fun e=>h.g3 (e▸h3),fun e=>h.u3 (e▸h3),by omega⟩
   ·exact⟨h2,by omega,by omega,h3⟩
  exact(k79 z (by omega) hne.2.2.1 hne.2.2.2).trans ((h7.block z (by omega)).trans ((jci hne.2.1).trans (h5.block z hz4 (by simp[hne.1]))))
 have hclose: ∃fq,Rp.house.R w9 ch ⟨m.keys,m.used.set u new,m.Rz.set i { p with Fz:=p.Fz.set k ⟨x.name,x.guard,x.count+1,vs⟩}⟩ fq∧∀z∈fq,z∈fp∨z∈fr:=by
  refine h.close w9 (.slice A n c) new (x.count+1) vs fr (by omega) hblk (fun j hj=> ?_) hc9 ⟨A,n,c,fr,rfl,rfl,hs9⟩ (fun j hj=> ?_) ?_
  ·rw[World.cell?_of_block (a:=⟨g,j,none⟩) kg,joe hj];exact World.cell?_of_block (a:=⟨g,j,none⟩) (k5 g hgl h.g3)
  ·rw[World.cell?_of_block (a:=⟨bU,j,none⟩) kU,World.cell?_setCell_other _ _ _ _ (by simp only[ne_eq,Addr.mk.injEq];omega)];exact World.cell?_of_block (a:=⟨bU,j,none⟩) kU7
  ·rw[World.cell?_of_block (a:=⟨bU,oU+u,none⟩) kU];exact World.cell?_setCell_same w7 _ _ ((World.cell?_of_block (a:=⟨bU,oU+u,none⟩) kU7).trans h.cu)
 obtain⟨fq,hq,_⟩:=hclose;exact⟨⟨fq,hq⟩,⟨h9.os.trans (h7.os.trans (h5.os.trans (hg.os.trans hB.os))),h9.tape.trans (h7.tape.trans (h5.tape.trans (hg.tape.trans hB.tape))),h9.output.trans (h7.output.trans (h5.output.trans (hg.output.trans hB.output))),by omega,
  fun z hz hm=>hblk z hz (fun e=>hm (e▸h.uin)) (fun e=>hm (e▸h.gin)) (fun e=>hm (h.f3in z e))⟩⟩
theorem jnv {W Wi:World} {v3:Value} {l:List (List File)} {xs:List Value} {f1 f5:List Nat} {A5:Option Addr} {n5 c5 n base g' cap:Nat} {files:List File} (ha:AllR (Rp.slice Rp.file) W xs l f1) (hn:(Vm v3++f1).Nodup) (hg:W.grownBy Wi v3.ownBlock)
  (h5:SlR Rp.file W A5 n5 c5 files f5) (hd: ∀z∈f5,z∉Vm v3) (ho:Wi.ownsRow base 34 1 (.slice (some ⟨g',0,none⟩) (n+1) cap) (n+1) (xs++ [.slice A5 n5 c5])) (hl:l.length=n):
  ∃fr,SlR (Rp.slice Rp.file) Wi (some ⟨g',0,none⟩) (n+1) cap (l++ [files]) fr∧∀z∈fr,z=g'∨z∈f1∨z∈f5:=by
 have hv: ∀z∈f1,v3.ownBlock≠some z:=fun z hz e=>(List.nodup_append.1 hn).2.2 z (by unfold Vm;rw[e];simp) z hz rfl;have hk1:=ha.keep (w':=Wi) fun z hz=>hg.block z (ha.lt z hz) fun e=>hv z hz e.symm;have h5':=h5.keep (w':=Wi) fun z hz=>hg.block z (h5.lt z hz) fun e=>hd z hz (by unfold Vm;rw[←e];simp)
 have hal:AllR (Rp.slice Rp.file) Wi (xs++ [.slice A5 n5 c5]) (l++ [files]) (f1++f5):=hk1.snoc ⟨A5,n5,c5,rfl,h5'⟩;have hlen:(l++ [files]).length=n+1:=by simp;omega
 rw[←hlen] at ho;obtain⟨A,c,f0,hvv,hs,h0,_,_⟩:=SlR.of_owns (r:=Rp.slice Rp.file) ho hal;rw[hlen] at hvv hs;cases hvv;refine⟨_,hs,fun z hz=> ?_⟩;rcases List.mem_append.1 hz with hz|hz
 ·have:=(h0 z hz).1;simp only[Value.ownBlock,Option.some.injEq] at this;exact .inl this.symm
 ·exact .inr (List.mem_append.1 hz)
end Go.Proofs.YtobbdhgkcoeifaaGreatDoor
