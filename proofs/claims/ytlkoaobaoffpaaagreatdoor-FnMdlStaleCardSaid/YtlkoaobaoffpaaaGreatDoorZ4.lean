/- Lemmas and walks, joined and shortened by program (wip/gen/merge2.py). -/
import Derived.Lib.Overlaps
import Derived.Lib.AppendZerosOnto
import Derived.Lib.SliceRun
import Derived.Laws.Externs
import Derived.Test.YtlkoaobaoffpaaaGreatDoorZ1
import Derived.Test.YtlkoaobaoffpaaaGreatDoorZ2
import Derived.Test.YtlkoaobaoffpaaaGreatDoorZ3
namespace Go.Proofs.YtlkoaobaoffpaaaGreatDoor
open Go.RowKit
set_option maxHeartbeats 8000000
set_option maxRecDepth 100000
set_option linter.unusedSimpArgs false
set_option linter.unusedVariables false
def Vm (v:Value):List Nat:=v.ownBlock.toList
section
variable {base:Nat} {e:TypeId} {size:Nat} {v:Value} {n:Nat} {xs:List Value} {w w':World}
theorem Jy (h:w.ownsRow base e size v n xs) (hk: ∀b∈Vm v,w'.heap[b]? =w.heap[b]?):w'.ownsRow base e size v n xs:=by
 refine⟨h.1, ?_⟩;rcases h.2 with hn|⟨g,cap,cur,rfl,hb,hg,rest⟩
 ·exact .inl hn
 ·exact .inr ⟨g,cap,cur,rfl,hb,(hk g (by simp[Vm,Value.ownBlock])).trans hg,rest⟩
theorem Jn (h:w.ownsRow base e size v n xs): ∀b∈Vm v,base≤b∧b<w.heap.size:=fun b hb=>h.lt b (by simpa [Vm] using hb)
theorem Y4 {base':Nat} (h:w.ownsRow base e size v n xs) (hb:base'≤base):w.ownsRow base' e size v n xs:=by
 refine⟨h.1, ?_⟩;rcases h.2 with hn|⟨g,cap,cur,rfl,hg,rest⟩
 ·exact .inl hn
 ·exact .inr ⟨g,cap,cur,rfl,Nat.le_trans hb hg,rest⟩
theorem jer (h:w.ownsRow base e size v n xs):Free w (Vm v):=fun b hb=>by
 rcases h.2 with ⟨rfl,_⟩|⟨g,cap,cur,rfl,_,hg,_⟩
 ·simp[Vm,Value.ownBlock] at hb
 ·simp[Vm,Value.ownBlock] at hb;subst hb;exact⟨cur,e,hg⟩
theorem jkk (h:w.ownsRow base e size v n xs):v.oneCell'=true:=by
 rcases h.2 with ⟨rfl,_⟩|⟨g,cap,cur,rfl,_⟩<;>rfl
end
def OwS {α:Type} (r:Rp α) (e:TypeId) (w:World) (v:Value) (l:List α) (fp:List Nat):Prop:=
 ∃xs f1,w.ownsRow 0 e r.k v l.length xs∧AllR r w xs l f1∧fp=Vm v++f1
def Rp.own {α:Type} (r:Rp α) (e:TypeId):Rp (List α) where
 k:=1
 R:=fun w cs l fp=>∃v,cs= [v]∧OwS r e w v l fp
 len:=fun⟨_,h,_⟩=>by rw[h];rfl
 keep:=fun⟨v,h,xs,f1,ho,ha,hf⟩ hk=>by
  subst hf;exact⟨v,h,xs,f1,Jy ho fun b hb=>hk b (List.mem_append_left _ hb),ha.keep fun b hb=>hk b (List.mem_append_right _ hb),rfl⟩
 lt:=fun⟨v,h,xs,f1,ho,ha,hf⟩ b hb=>by
  subst hf;rcases List.mem_append.1 hb with hb|hb
  ·exact(Jn ho b hb).2
  ·exact ha.lt b hb
 one:=fun⟨v,h,xs,f1,ho,_⟩ u hu=>by subst h;simp at hu;subst hu;exact jkk ho
section
variable {α:Type} {r:Rp α} {e:TypeId} {w w':World} {v:Value} {l:List α} {fp:List Nat}
theorem OwS.rp (h:OwS r e w v l fp):(Rp.own r e).R w [v] l fp:=⟨v,rfl,h⟩
theorem OwS.keep (h:OwS r e w v l fp) (hk: ∀b∈fp,w'.heap[b]? =w.heap[b]?):OwS r e w' v l fp:=by
 obtain⟨v',hv,h'⟩:=(Rp.own r e).keep h.rp hk;cases hv;exact h'
theorem OwS.lt (h:OwS r e w v l fp): ∀b∈fp,b<w.heap.size:=(Rp.own r e).lt h.rp
theorem OwS.step (h:OwS r e w v l fp) (hb:Below w.heap.size w w'):OwS r e w' v l fp:=h.keep fun b hm=>hb.block b (h.lt b hm)
theorem OwS.sl (h:OwS r e w v l fp): ∃A c f,v= .slice A l.length c∧SlR r w A l.length c l f∧f.Sublist fp∧l.length≤c∧c≤maxLen:=by
 obtain⟨xs,f1,ho,ha,rfl⟩:=h;have ho':=ho;obtain⟨hl,h⟩:=ho;rcases h with ⟨rfl,h0⟩|⟨g,cap,cur,rfl,hb,hg,hn,hc,hs,ht⟩
 ·have:l= []:=List.eq_nil_of_length_eq_zero h0;subst this;exact⟨none,0,f1,rfl,⟨rfl,Nat.le_refl _,by simp[maxLen],xs,[],f1,⟨hl,.inl ⟨rfl,rfl⟩⟩,ha,rfl⟩,by simp[Vm,Value.ownBlock],Nat.le_refl _,by simp[maxLen]⟩
 ·by_cases h0:l.length=0
  ·have:l= []:=List.eq_nil_of_length_eq_zero h0;subst this;exact⟨_,cap,f1,rfl,⟨rfl,hn,hc,xs,[],f1,⟨hl,.inl ⟨rfl,rfl⟩⟩,ha,rfl⟩,by simp[Vm,Value.ownBlock],hn,hc⟩
  ·have hlt:g<w.heap.size:=(Array.getElem?_eq_some_iff.1 hg).1;refine⟨_,cap,[g]++f1,rfl,⟨rfl,hn,hc,xs,[g],f1,⟨hl,.inr ⟨by omega,g,0,rfl,rfl,hlt,fun j u hu=> ?_⟩⟩,ha,rfl⟩,by simp[Vm,Value.ownBlock],hn,hc⟩;rw[cell_of_row w g (0+j) cur e (0,0) hg,Nat.zero_add];rw[←ht,List.getElem?_take] at hu;split at hu
   ·simpa using hu
   ·cases hu
theorem OwS.of_owns {base:Nat} {xs:List Value} {f1:List Nat} (h:w.ownsRow base e r.k v l.length xs) (ha:AllR r w xs l f1):OwS r e w v l (Vm v++f1):=
 ⟨xs,f1,Y4 h (Nat.zero_le _),ha,rfl⟩
theorem OwS.nil:OwS r e w (.slice none 0 0) [] []:=⟨[],[],World.ownsRow_nil _ _ _ _,⟨rfl,rfl⟩,rfl⟩
end
def Rp.Le {α:Type} (r s:Rp α):Prop:=r.k=s.k∧∀w cs x fp,r.R w cs x fp→∃f,s.R w cs x f∧f.Sublist fp
theorem AllR.le {α:Type} {r s:Rp α} (h:Rp.Le r s) {w:World} : ∀ {l:List α} {xs:List Value} {fp:List Nat},AllR r w xs l fp→∃f,AllR s w xs l f∧f.Sublist fp
 | [],_,_,⟨h1,h2⟩=>⟨[],⟨h1,rfl⟩,by simp⟩
 |x::l,xs,fp,⟨c1,c2,f1,f2,h1,h2,h3,h4⟩=>by
  obtain⟨g1,k1,s1⟩:=h.2 _ _ _ _ h3;obtain⟨g2,k2,s2⟩:=AllR.le h h4;subst h2;exact⟨g1++g2,⟨c1,c2,g1,g2,h1,rfl,k1,k2⟩,s1.append s2⟩
theorem SlR.le {α:Type} {r s:Rp α} (h:Rp.Le r s) {w:World} {A:Option Addr} {n c:Nat} {l:List α} {fp:List Nat} (hs:SlR r w A n c l fp): ∃f,SlR s w A n c l f∧f.Sublist fp:=by
 obtain⟨hn,h1,h2,xs,f0,f1,hs,ha,rfl⟩:=hs;obtain⟨g,hg,hsub⟩:=ha.le h;rw[h.1] at hs;exact⟨f0++g,⟨hn,h1,h2,xs,f0,g,hs,hg,rfl⟩,(List.Sublist.refl f0).append hsub⟩
theorem jii {f g:List Nat} (h:f.Sublist g) (hn:g.Nodup):f.Nodup:=hn.sublist h
theorem Free.sublist {w:World} {f g:List Nat} (h:Free w g) (hs:f.Sublist g):Free w f:=fun b hb=>h b (hs.subset hb)
def Rp.refO:Rp Ref where
 k:=4
 R:=fun w cs x fp=>∃v,cs= [.string x.name,.bool x.guard,.int .i64 x.count,v]∧OwS (Rp.slice Rp.file) 42 w v x.Vz fp
 len:=fun⟨_,h,_⟩=>by rw[h];rfl
 keep:=fun⟨v,h,h0⟩ hk=>⟨v,h,h0.keep hk⟩
 lt:=fun⟨v,h,h0⟩=>h0.lt
 one:=fun⟨v,h,h0⟩ u hu=>by
  subst h;simp only[List.mem_cons,List.not_mem_nil,or_false] at hu;rcases hu with rfl|rfl|rfl|rfl<;>first|rfl|exact(Rp.own _ _).one h0.rp _ (by simp)
def Rp.repoO:Rp Xq where
 k:=3
 R:=fun w cs x fp=>∃A0 n0 c0 f0 v f1,cs= [.int .i64 x.Az,.slice A0 n0 c0,v]∧fp=f0++f1∧SlR Rp.rule w A0 n0 c0 x.Uz f0∧OwS Rp.refO 41 w v x.Fz f1
 len:=fun⟨_,_,_,_,_,_,h,_⟩=>by rw[h];rfl
 keep:=fun⟨A0,n0,c0,f0,v,f1,h,hf,h0,h1⟩ hk=>by
  subst hf;exact⟨A0,n0,c0,f0,v,f1,h,rfl,h0.keep fun b hb=>hk b (List.mem_append_left _ hb),h1.keep fun b hb=>hk b (List.mem_append_right _ hb)⟩
 lt:=fun⟨A0,n0,c0,f0,v,f1,h,hf,h0,h1⟩ b hb=>by
  subst hf;rcases List.mem_append.1 hb with hb|hb
  ·exact h0.lt b hb
  ·exact h1.lt b hb
 one:=fun⟨A0,n0,c0,f0,v,f1,h,hf,h0,h1⟩ u hu=>by
  subst h;simp only[List.mem_cons,List.not_mem_nil,or_false] at hu;rcases hu with rfl|rfl|rfl<;>first|rfl|exact(Rp.own _ _).one h1.rp _ (by simp)
def Rp.houseO:Rp Jl where
 k:=3
 R:=fun w cs x fp=>∃A0 n0 c0 f0 A1 n1 c1 f1 v f2,cs= [.slice A0 n0 c0,.slice A1 n1 c1,v]∧fp=f0++(f1++f2)∧SlR Rp.int w A0 n0 c0 x.keys f0∧SlR Rp.int w A1 n1 c1 x.used f1∧OwS Rp.repoO 38 w v x.Rz f2
 len:=fun⟨_,_,_,_,_,_,_,_,_,_,h,_⟩=>by rw[h];rfl
 keep:=fun⟨A0,n0,c0,f0,A1,n1,c1,f1,v,f2,h,hf,h0,h1,h2⟩ hk=>by
  subst hf;exact⟨A0,n0,c0,f0,A1,n1,c1,f1,v,f2,h,rfl,h0.keep fun b hb=>hk b (by simp[hb]),h1.keep fun b hb=>hk b (by simp[hb]),h2.keep fun b hb=>hk b (by simp[hb])⟩
 lt:=fun⟨A0,n0,c0,f0,A1,n1,c1,f1,v,f2,h,hf,h0,h1,h2⟩ b hb=>by
  subst hf;simp only[List.mem_append] at hb;rcases hb with hb|hb|hb
  ·exact h0.lt b hb
  ·exact h1.lt b hb
  ·exact h2.lt b hb
 one:=fun⟨A0,n0,c0,f0,A1,n1,c1,f1,v,f2,h,hf,h0,h1,h2⟩ u hu=>by
  subst h;simp only[List.mem_cons,List.not_mem_nil,or_false] at hu;rcases hu with rfl|rfl|rfl<;>first|rfl|exact(Rp.own _ _).one h2.rp _ (by simp)
theorem jbl:Rp.Le Rp.refO Rp.ref:=⟨rfl,fun w cs x fp ⟨v,h,h0⟩=>by
 obtain⟨A,c,f,rfl,hs,hsub,_,_⟩:=h0.sl;exact⟨f,⟨A,_,c,f,h,rfl,hs⟩,hsub⟩⟩
theorem jc5:Rp.Le Rp.repoO Rp.repo:=⟨rfl,fun w cs x fp ⟨A0,n0,c0,f0,v,f1,h,hf,h0,h1⟩=>by
 obtain⟨A,c,f,rfl,hs,hsub,_,_⟩:=h1.sl;obtain⟨g,hg,hsub2⟩:=hs.le jbl;subst hf;exact⟨f0++g,⟨A0,n0,c0,f0,A,_,c,g,h,rfl,h0,hg⟩,(List.Sublist.refl f0).append (hsub2.trans hsub)⟩⟩
theorem V8:Rp.Le Rp.houseO Rp.house:=⟨rfl,fun w cs x fp ⟨A0,n0,c0,f0,A1,n1,c1,f1,v,f2,h,hf,h0,h1,h2⟩=>by
 obtain⟨A,c,f,rfl,hs,hsub,_,_⟩:=h2.sl;obtain⟨g,hg,hsub2⟩:=hs.le jc5;subst hf;exact⟨f0++(f1++g),⟨A0,n0,c0,f0,A1,n1,c1,f1,A,_,c,g,h,rfl,h0,h1,hg⟩,(List.Sublist.refl f0).append ((List.Sublist.refl f1).append (hsub2.trans hsub))⟩⟩
theorem SlR.put1 {α:Type} {r:Rp α} {w:World} {A:Option Addr} {n c:Nat} {l:List α} {fp:List Nat} (h:SlR r w A n c l fp) (hn:fp.Nodup) {i:Nat} (hi:i<l.length):
  ∃b o cs f,A=some ⟨b,o,none⟩∧b∈fp∧b∉f∧(∀x∈f,x∈fp)∧f.Nodup∧b<w.heap.size∧Cells w b (o+i*r.k) cs∧r.R w cs l[i] f∧
   ∀(s:Rp α) (w':World) (cs':List Value) (y:α) (f':List Nat),Rp.Le r s→(∀j,j<o+i*r.k∨o+i*r.k+r.k≤j→w'.cell? ⟨b,j,none⟩=w.cell? ⟨b,j,none⟩)→b<w'.heap.size→Cells w' b (o+i*r.k) cs'→s.R w' cs' y f'→
    (∀x∈fp,x≠b→x∉f→w'.heap[x]? =w.heap[x]?)→∃fp',SlR s w' A n c (l.set i y) fp'∧∀z∈fp',z∈fp∨z∈f':=by
 obtain⟨hn',h1,h2,xs,f0,f1,hs,ha,hf⟩:=h;obtain⟨c0,cs,c1,g0,g,g1,e1,e2,e3,e4,e5,e6⟩:=ha.split hi;rcases hs.2 with ⟨h0,_⟩|⟨hn0,b,o,hA,hf0,hb,hc⟩
 ·omega
 ·subst hf;subst hf0;subst e2;subst e1;have hn2:(b::(g0++(g++g1))).Nodup:=hn;have hbn:b∉g0++(g++g1):=(List.nodup_cons.1 hn2).1;have hnd:(g0++(g++g1)).Nodup:=(List.nodup_cons.1 hn2).2;have hgn:g.Nodup:=(List.nodup_append.1 (List.nodup_append.1 hnd).2.1).1;have hd0: ∀x∈g0,x∉g:=fun x hx hg=>(List.nodup_append.1 hnd).2.2 x hx x (List.mem_append_left _ hg) rfl
  have hd1: ∀x∈g1,x∉g:=fun x hx hg=>(List.nodup_append.1 (List.nodup_append.1 hnd).2.1).2.2 x hg x hx rfl;have hcc:=hc.right.left;rw[e3] at hcc;refine⟨b,o,cs,g,hA,by simp,fun hm=>hbn (by simp[hm]),fun x hx=>by simp[hx],hgn,hb,hcc,e5,fun s w' cs' y f' hle hother hb' hcs' hy hk=> ?_⟩;have hks:=hle.1;have hlen:cs'.length=r.k:=by rw[s.len hy,hks]
  have hlen0:=r.len e5;have e4':=e4.keep (w':=w') fun x hx=>hk x (by simp[hx]) (fun e=>hbn (by rw[←e];simp[hx])) (hd0 x hx);have e6':=e6.keep (w':=w') fun x hx=>hk x (by simp[hx]) (fun e=>hbn (by rw[←e];simp[hx])) (hd1 x hx);obtain⟨k0,q0,hs0⟩:=e4'.le hle;obtain⟨k1,q1,hs1⟩:=e6'.le hle;have hal:AllR s w' (c0++(cs'++c1)) (l.set i y) (k0++(f'++k1)):=AllR.set hi q0 q1 hy fun _ _=>rfl
  refine⟨[b]++(k0++(f'++k1)),⟨by simpa using hn',h1,h2,c0++(cs'++c1),[b],k0++(f'++k1),⟨?_,.inr ⟨hn0,b,o,hA,rfl,hb', ?_⟩⟩,hal,rfl⟩,fun z hz=> ?_⟩;rotate_left 2
  ·simp only[List.mem_append] at hz ⊢;rcases hz with hz|hz|hz|hz
   ·exact .inl (.inl hz)
   ·exact .inl (.inr (.inl (hs0.subset hz)))
   ·exact .inr hz
   ·exact .inl (.inr (.inr (.inr (hs1.subset hz))))
  ·have:=hs.1;rw[←hks];simp only[List.length_append] at this ⊢;omega
  ·have hl0:Cells w' b o c0:=fun j u hu=>by
    have hj:=(List.getElem?_eq_some_iff.1 hu).1;rw[hother (o+j) (by omega)];exact hc.left j u hu
   have hl1:Cells w' b (o+(c0++cs').length) c1:=fun j u hu=>by
    have hr:=hc.right.right j u hu;rw[hother _ (by simp only[List.length_append];omega),←hr]
    congr 2
    simp only[List.length_append];omega
   rw[←List.append_assoc];refine Cells.append (Cells.append hl0 ?_) hl1;rw[e3];exact hcs'
theorem OwS.put1 {α:Type} {r:Rp α} {e:TypeId} {w:World} {v:Value} {l:List α} {fp:List Nat} (h:OwS r e w v l fp) (hn:fp.Nodup) {k:Nat} (hk:k<l.length):
  ∃g cap cs f,v= .slice (some ⟨g,0,none⟩) l.length cap∧g∈fp∧g∉f∧(∀x∈f,x∈fp)∧f.Nodup∧g<w.heap.size∧Cells w g (k*r.k) cs∧r.R w cs l[k] f∧
   ∀(s:Rp α) (w':World) (cs':List Value) (y:α) (f':List Nat),Rp.Le r s→(∀j,j<k*r.k∨k*r.k+r.k≤j→w'.cell? ⟨g,j,none⟩=w.cell? ⟨g,j,none⟩)→g<w'.heap.size→Cells w' g (k*r.k) cs'→s.R w' cs' y f'→
    (∀x∈fp,x≠g→x∉f→w'.heap[x]? =w.heap[x]?)→∃fp',SlR s w' (some ⟨g,0,none⟩) l.length cap (l.set k y) fp'∧∀z∈fp',z∈fp∨z∈f':=by
 obtain⟨A,c,f0,rfl,hs,hsub,_,_⟩:=h.sl;obtain⟨b,o,cs,f,rfl,h1,h2,h3,h4,h5,h6,h7,h8⟩:=hs.put1 (jii hsub hn) hk;obtain⟨xs,f1,ho,_,_⟩:=h;have ho0:o=0:=by
  rcases ho.2 with ⟨h,_⟩|⟨g,cap,cur,h,_⟩
  ·cases h
  ·cases h;rfl
 subst ho0;rw[Nat.zero_add] at h6 h8;refine⟨b,c,cs,f,rfl,hsub.subset h1,h2,fun x hx=>hsub.subset (h3 x hx),h4,h5,h6,h7,fun s w' cs' y f' g1 g2 g3 g4 g5 g6=> ?_⟩;obtain⟨fp',k1,k2⟩:=h8 s w' cs' y f' g1 g2 g3 g4 g5 fun x hx=>g6 x (hsub.subset hx);exact⟨fp',k1,fun z hz=>(k2 z hz).imp (fun h=>hsub.subset h) id⟩
theorem jb9 {w:World} {cs:List Value} {x:Jl} {fp:List Nat} (h:Rp.houseO.R w cs x fp) (hn:fp.Nodup) {i:Nat} (hi:i<x.Rz.length):
  ∃A0 n0 c0 f0 A1 n1 c1 f1 b c2 cur cr f,cs= [.slice A0 n0 c0,.slice A1 n1 c1,.slice (some ⟨b,0,none⟩) x.Rz.length c2]∧
   SlR Rp.int w A0 n0 c0 x.keys f0∧SlR Rp.int w A1 n1 c1 x.used f1∧w.heap[b]? =some (.cells cur 38 (0,0))∧
   b∈fp∧b<w.heap.size∧b∉f∧f.Nodup∧(∀z∈f,z∈fp)∧f1.Nodup∧(∀z∈f1,z∈fp∧z≠b∧z∉f)∧(∀z∈f0,z∈fp∧z≠b∧z∉f∧z∉f1)∧
   Cells w b (i*3) cr∧Rp.repoO.R w cr x.Rz[i] f∧
   ∀(w':World) (cr':List Value) (y:Xq) (f':List Nat) (u':List Int) (fu:List Nat),(∀j,j<i*3∨i*3+3≤j→w'.cell? ⟨b,j,none⟩=w.cell? ⟨b,j,none⟩)→b<w'.heap.size→
    Cells w' b (i*3) cr'→Rp.repo.R w' cr' y f'→SlR Rp.int w' A1 n1 c1 u' fu→(∀z∈fp,z≠b→z∉f→z∉f1→w'.heap[z]? =w.heap[z]?)→∃fp',Rp.house.R w' cs ⟨x.keys,u',x.Rz.set i y⟩ fp'∧∀z∈fp',z∈fp∨z∈f'∨z∈fu:=by
 obtain⟨A0,n0,c0,f0,A1,n1,c1,f1,v,f2,rfl,hf,h0,h1,h2⟩:=h;subst hf;obtain⟨hn0,hn12,hd0⟩:=List.nodup_append.1 hn;obtain⟨hn1,hn2,hd1⟩:=List.nodup_append.1 hn12;have hty: ∀g n c,v= .slice (some ⟨g,0,none⟩) n c→∃cur,w.heap[g]? =some (.cells cur 38 (0,0)):=by
  intro g n c hv;obtain⟨xs,f1',ho,_,_⟩:=h2;rcases ho.2 with ⟨h,_⟩|⟨g',cap,cur,h,_,hg,_⟩
  ·rw[hv] at h;cases h
  ·rw[hv] at h;cases h;exact⟨cur,hg⟩
 obtain⟨b,c2,cr,f,rfl,hb,hbf,hsub,hfn,hbl,hc,hr,hcl⟩:=h2.put1 hn2 hi;obtain⟨cur,hcur⟩:=hty _ _ _ rfl;refine⟨A0,n0,c0,f0,A1,n1,c1,f1,b,c2,cur,cr,f,rfl,h0,h1,hcur,by simp[hb],hbl,hbf,hfn,fun z hz=>by simp[hsub z hz],hn1,fun z hz=>⟨by simp[hz],fun e=>hd1 z hz b hb e,fun hf=>hd1 z hz z (hsub z hf) rfl⟩,
  fun z hz=>⟨by simp[hz],fun e=>hd0 z hz b (by simp[hb]) e,fun hf=>hd0 z hz z (by simp[hsub z hf]) rfl,fun hf=>hd0 z hz z (by simp[hf]) rfl⟩,hc,hr, ?_⟩
 intro w' cr' y f' u' fu g1 g2 g3 g4 g5 g6;have k0:SlR Rp.int w' A0 n0 c0 x.keys f0:=h0.keep fun z hz=>g6 z (by simp[hz]) (fun e=>hd0 z hz b (by simp[hb]) e) (fun hf=>hd0 z hz z (by simp[hsub z hf]) rfl) (fun hf=>hd0 z hz z (by simp[hf]) rfl);obtain⟨fq,hq,hqm⟩:=hcl Rp.repo w' cr' y f' jc5 g1 g2 g3 g4 fun z hz hzb hzf=>g6 z (by simp[hz]) hzb hzf fun hf=>hd1 z hf z hz rfl
 refine⟨f0++(fu++fq),⟨A0,n0,c0,f0,A1,n1,c1,fu,_,_,c2,fq,rfl,rfl,k0,g5,hq⟩,fun z hz=> ?_⟩;simp only[List.mem_append] at hz ⊢;rcases hz with hz|hz|hz
 ·exact .inl (.inl hz)
 ·exact .inr (.inr hz)
 ·rcases hqm z hz with hz|hz
  ·exact .inl (.inr (.inr hz))
  ·exact .inr (.inl hz)
theorem jhl {w:World} {cr:List Value} {p:Xq} {f:List Nat} (h:Rp.repoO.R w cr p f) (hn:f.Nodup) {k:Nat} (hk:k<p.Fz.length):
  ∃B0 m0 d0 g0 g cap cf f3,cr= [.int .i64 p.Az,.slice B0 m0 d0,.slice (some ⟨g,0,none⟩) p.Fz.length cap]∧SlR Rp.rule w B0 m0 d0 p.Uz g0∧
   g∈f∧g<w.heap.size∧g∉f3∧f3.Nodup∧(∀z∈f3,z∈f)∧(∀z∈g0,z∈f∧z≠g∧z∉f3)∧
   Cells w g (k*4) cf∧Rp.refO.R w cf p.Fz[k] f3∧
   ∀(w':World) (cf':List Value) (y:Ref) (f':List Nat),(∀j,j<k*4∨k*4+4≤j→w'.cell? ⟨g,j,none⟩=w.cell? ⟨g,j,none⟩)→g<w'.heap.size→
    Cells w' g (k*4) cf'→Rp.ref.R w' cf' y f'→(∀z∈f,z≠g→z∉f3→w'.heap[z]? =w.heap[z]?)→∃f'',Rp.repo.R w' cr { p with Fz:=p.Fz.set k y} f''∧∀z∈f'',z∈f∨z∈f':=by
 obtain⟨B0,m0,d0,g0,v,g1,rfl,hf,h0,h1⟩:=h;subst hf;obtain⟨hn0,hn1,hd⟩:=List.nodup_append.1 hn;obtain⟨g,cap,cf,f3,rfl,q1,q2,q3,q4,q5,q6,q7,q8⟩:=h1.put1 hn1 hk;refine⟨B0,m0,d0,g0,g,cap,cf,f3,rfl,h0,by simp[q1],q5,q2,q4,fun z hz=>by simp[q3 z hz],fun z hz=>⟨by simp[hz],fun e=>hd z hz g q1 e,fun hf=>hd z hz z (q3 z hf) rfl⟩,q6,q7, ?_⟩;intro w' cf' y f' g2 g3 g4 g5 g6
 have k0:SlR Rp.rule w' B0 m0 d0 p.Uz g0:=h0.keep fun z hz=>g6 z (by simp[hz]) (fun e=>hd z hz g q1 e) (fun hf=>hd z hz z (q3 z hf) rfl);obtain⟨fq,hq,hqm⟩:=q8 Rp.ref w' cf' y f' jbl g2 g3 g4 g5 fun z hz hzg hzf=>g6 z (by simp[hz]) hzg hzf;refine⟨g0++fq,⟨B0,m0,d0,g0,_,_,cap,fq,rfl,rfl,k0,hq⟩,fun z hz=> ?_⟩;simp only[List.mem_append] at hz ⊢;rcases hz with hz|hz
 ·exact .inl (.inl hz)
 ·rcases hqm z hz with hz|hz
  ·exact .inl (.inr hz)
  ·exact .inr hz
def OwB {α:Type} (r:Rp α) (e:TypeId) (H:Nat) (v:Value) (l:List α) (w:World):Prop:=∃fp,OwS r e w v l fp∧fp.Nodup∧(∀b∈fp,H≤b)∧Free w fp
def Grows {α:Type} (r:Rp α) (e:TypeId) (H:Nat) (v:Value) (n:Nat) (xs ys:List Value) (l':List α) (wA:World) (HA:Nat):Prop:=
 ∀(g cap:Nat) (w2:World),w2.ownsRow 0 e r.k (.slice (some ⟨g,0,none⟩) (n+1) cap) (n+1) (xs++ys)→wA.grownBy w2 v.ownBlock→(v.ownBlock=some g∨g=HA)→OwB r e H (.slice (some ⟨g,0,none⟩) (n+1) cap) l' w2
section
variable {α:Type} {r:Rp α} {e:TypeId} {H:Nat} {v:Value} {l:List α} {w w1:World}
theorem OwB.nil:OwB r e H (.slice none 0 0) [] w:=⟨[],OwS.nil,List.nodup_nil,by simp,Free.nil _⟩
theorem OwB.step (h:OwB r e H v l w) (hb:Below w.heap.size w w1):OwB r e H v l w1:=by
 obtain⟨fp,h1,h2,h3,h4⟩:=h;exact⟨fp,h1.step hb,h2,h3,h4.step hb⟩
theorem OwB.alloc (h:OwB r e H v l w) (o:Obj):OwB r e H v l (w.alloc o):=h.step ((Below.refl _ _).alloc nle o)
theorem OwB.low {H':Nat} (h:OwB r e H v l w) (hl:H'≤H):OwB r e H' v l w:=by
 obtain⟨fp,h1,h2,h3,h4⟩:=h;exact⟨fp,h1,h2,fun b hb=>Nat.le_trans hl (h3 b hb),h4⟩
theorem OwB.only {f:List Nat} (h:OwB r e H v l w) (hb:Only f w w1) (hf: ∀b∈f,b<H):OwB r e H v l w1:=by
 obtain⟨fp,h1,h2,h3,h4⟩:=h;have hk: ∀b∈fp,w1.heap[b]? =w.heap[b]? :=fun b hm=>hb.block b (h1.lt b hm) fun hc=>by have:=hf b hc;have:=h3 b hm;omega
 exact⟨fp,h1.keep hk,h2,h3,h4.keep hk⟩
theorem OwB.form (h:OwB r e H v l w): ∃A c,v= .slice A l.length c∧l.length≤c∧c≤maxLen:=by
 obtain⟨fp,h1,_⟩:=h;obtain⟨A,c,_,h,_,_,h2,h3⟩:=h1.sl;exact⟨A,c,h,h2,h3⟩
theorem OwB.vlow (h:OwB r e H v l w): ∀b∈Vm v,H≤b:=by
 obtain⟨fp,⟨xs,f1,ho,_,rfl⟩,_,h3,_⟩:=h;exact fun b hb=>h3 b (List.mem_append_left _ hb)
theorem OwB.grow (h:OwB r e H v l w): ∃xs,w.ownsRow 0 e r.k v l.length xs∧∀ {wA:World},Below w.heap.size w wA→wA.ownsRow 0 e r.k v l.length xs∧
  ∀ {ys:List Value} {y:α} {g:List Nat},r.R wA ys y g→g.Nodup→(∀b∈g,w.heap.size≤b)→H≤w.heap.size→Free wA g→∀ {HA:Nat},wA.heap.size=HA→Grows r e H v l.length xs ys (l++ [y]) wA HA:=by
 obtain⟨fp,⟨xs,f1,ho,ha,rfl⟩,hn,hlo,hf⟩:=h;refine⟨xs,ho,fun {wA} hb=> ?_⟩;have hoA:=Jy ho fun b hm=>hb.block b (Jn ho b hm).2;refine⟨hoA,fun {ys y g} hy hgn hgl hHw hgf {HA} hHA g' cap w2 h2 hgr hor=> ?_⟩;obtain⟨hn0,hn1,hd⟩:=List.nodup_append.1 hn;have hlt: ∀b∈Vm v,b<w.heap.size:=fun b hm=>(Jn ho b hm).2;have hltf: ∀b∈f1,b<w.heap.size:=ha.lt
 have hgA: ∀b∈g,b<wA.heap.size:=r.lt hy;have hob: ∀b,v.ownBlock=some b→b∈Vm v:=fun b hb=>by unfold Vm;rw[hb];simp
 have e1: ∀b∈f1,w2.heap[b]? =wA.heap[b]? :=fun b hm=>hgr.block b (Nat.lt_of_lt_of_le (hltf b hm) hb.size) fun e=>hd b (hob b e.symm) b hm rfl;have e2: ∀b∈g,w2.heap[b]? =wA.heap[b]? :=fun b hm=>hgr.block b (hgA b hm) fun e=>by have:=hlt b (hob b e.symm);have:=hgl b hm;omega
 have ha2:AllR r w2 (xs++ys) (l++ [y]) (f1++g):=((ha.keep fun b hm=>hb.block b (hltf b hm)).keep e1).snoc (r.keep hy e2);have hg':g'∉f1++g:=fun hm=>by
  rcases hor with h|h
  ·have h1:=hob g' h;rcases List.mem_append.1 hm with hm|hm
   ·exact hd g' h1 g' hm rfl
   ·have:=hlt g' h1;have:=hgl g' hm;omega
  ·rcases List.mem_append.1 hm with hm|hm
   ·have:=hltf g' hm;have:=hb.size;omega
   ·have:=hgA g' hm;omega
 have hfr:Free w2 (f1++g):=((((hf.right).keep fun b hm=>hb.block b (hltf b hm)).keep e1).append (hgf.keep e2));refine⟨[g']++(f1++g),⟨xs++ys,f1++g,by simpa using h2,ha2,by simp[Vm,Value.ownBlock]⟩, ?_,fun b hm=> ?_, ?_⟩
 ·show(g'::(f1++g)).Nodup;refine List.nodup_cons.2 ⟨hg',List.nodup_append.2 ⟨hn1,hgn,fun a ha b hb' e=> ?_⟩⟩;subst e;have:=hltf a ha;have:=hgl a hb';omega
 ·rcases List.mem_append.1 hm with hm|hm
  ·rw[List.mem_singleton.1 hm];rcases hor with h|h
   ·exact hlo g' (List.mem_append_left _ (hob g' h))
   ·have:=hb.size;omega
  ·rcases List.mem_append.1 hm with hm|hm
   ·exact hlo b (List.mem_append_right _ hm)
   ·exact Nat.le_trans hHw (hgl b hm)
 ·exact Free.append (by simpa [Vm,Value.ownBlock] using jer h2) hfr
end
theorem Jb {w:World} {g:Nat} {t:TypeId} {cs:Array Value} (h:Blk w g t cs) (o:Nat):w.frozen? ⟨g,o,none⟩=false:=by
 unfold Blk at h;simp[World.frozen?,h]
theorem Blk.put {w:World} {g:Nat} {t:TypeId} {cs:Array Value} (h:Blk w g t cs) (i:Nat) (v:Value):Blk (w.setCell ⟨g,i,none⟩ v) g t (cs.setIfInBounds i v):=Jd h v
theorem Js (w:World) (g i:Nat) (v:Value):Only [g] w (w.setCell ⟨g,i,none⟩ v):=(Only.refl [g] w).setCell (.inl (by simp)) v
theorem OwnF.sl {α:Type} {t:TypeId} {k:Nat} {enc:α→List Value} {hk: ∀x,(enc x).length=k} {h1: ∀x,∀u∈enc x,u.oneCell'=true} {w:World} {l:List α} {e:Ending} {w':World}
  (h:OwnF t k enc w l e w'): ∃A c f,e= .returned (.slice A l.length c)∧SlR (Rp.flat k enc hk h1) w' A l.length c l f∧f.Nodup∧(∀b∈f,w.heap.size≤b)∧Free w' f∧Below w.heap.size w w':=by
 obtain⟨A,n,c,f,rfl,hs,h2,h3,h4,h5⟩:=h.fresh (hk:=hk) (h1:=h1);obtain rfl:=hs.1;exact⟨A,c,f,rfl,hs,h2,h3,h4,h5⟩
theorem je3 {w0 w w':World} {v:Value} (h:Below w0.heap.size w0 w) (hg:w.grownBy w' v.ownBlock) (hl: ∀b∈Vm v,w0.heap.size≤b):Below w0.heap.size w0 w':=
 h.grown hg h.size fun j hj=>hl j (by unfold Vm;rw[hj];simp)
theorem Vr {P:Program} (w:World) (dT sT ty elem:TypeId) (K g o dLen dCap:Nat) (a:Addr) (sLen sCap:Nat) (cur:Array Value) (t:TypeId) (cs:List Value)
  (hu:P.underlying dT=some (.slice elem)) (hs:(P.info? elem).map (·.size)=some K)
  (hg:w.heap[g]? =some (.cells cur t (0,0))) (m:Nat) (hm:Nat.min sLen dLen=m) (hn:cs.length=m*K)
  (hsrc: ∀j v,cs[j]? =some v→w.cell? (a.add j)=some v) (hfit:o+cs.length≤cur.size) (h1: ∀v∈cs,v.oneCell'=true):
  (Builtin.copy_ #[dT,sT] ty #[.slice (some ⟨g,o,none⟩) dLen dCap,.slice (some a) sLen sCap]).run P w=
   .ok (goInt m) (w.setRow g (cur.toList.take o++cs++cur.toList.drop (o+cs.length)).toArray):=by
 have hl:=run_loadCells_list (P:=P) w a cs hsrc;have hst:=run_storeCells_at P g o t cs 0 cur w hg (by simpa using hfit) h1;simp only[Nat.add_zero] at hst;cases hq:P.info? elem with
 |none=>simp[hq] at hs
 |some i=>
  have hi:i.size=K:=by simpa [hq] using hs
  simp[Builtin.copy_,run_underlying hu,Builtin.lenOf,Builtin.firstCells,sizeOf,typeInfo,hq,hi,hm,←hn,hl,hst]
theorem Wx {P:Program} {ops:Array Oper} {o:Oper} {a:Act} {w:World} {K:Act→World→Prop} {Q:Exit→Act→World→Prop} {E:Prop}
  (hg:o.guard=none) (d x:Operand) (dT sT:TypeId) (hop:o.op=Op.call { callee:=Callee.builtin Builtin.append,args:= #[d,x],argTypes:= #[dT,sT]})
  (v u:Value) (hd:a.eval d=v) (hx:a.eval x=u) {v':Value} {w':World} (hr:(Builtin.append_ #[dT,sT] o.type #[v,u]).run P w= .ok v' w') (hK:K (a.put o.dst v') w'):
  if Region.wanted o (yielded ops a.tmps)=true then Oper.wp P o a w K Q else E:=by
 have hw:Region.wanted o (yielded ops a.tmps)=true:=by simp[Region.wanted,hg]
 rw[if_pos hw];unfold Oper.wp;simp[execOp,hop,resolve,invoke,builtin,hd,hx,hr,Result.andThen];exact hK
theorem jg7 (z:Array Value) (k:Nat) (hk:z.size=k) (n:Nat):(Builtin.zeroCells z n).toList=(List.replicate n z.toList).flatten:=by
 rw[←jb5 z k hk n];simp[Builtin.zeroCells,madeCells,hk]
theorem jdg {P:Program} (w:World) (t e ty:TypeId) (z:Value) (K:Nat) (ht:P.underlying t=some (.slice e)) (hv: ∀w,(zeroValue e).run P w= .ok z w) (hz:z.cells.size=K) (h1: ∀v∈z.cells.toList,v.oneCell'=true)
  (g o n c:Nat) (cur:Array Value) (te:TypeId) (hg:w.heap[g]? =some (.cells cur te (0,0))) (hfit:o+n*K≤cur.size):
  (Builtin.clear_ #[t] ty #[.slice (some ⟨g,o,none⟩) n c]).run P w= .ok (.tuple #[]) (w.setRow g (cur.toList.take o++(List.replicate n z.cells.toList).flatten++cur.toList.drop (o+n*K)).toArray):=by
 have hl:(List.replicate n z.cells.toList).flatten.length=n*K:=by simp[hz]
 have hst:=run_storeCells_at P g o te (List.replicate n z.cells.toList).flatten 0 cur w hg (by rw[hl];simpa using hfit) (by
  intro v hv';obtain⟨l,hl',hm⟩:=List.mem_flatten.1 hv';rw[List.eq_of_mem_replicate hl'] at hm;exact h1 v hm)
 simp only[Nat.add_zero,hl] at hst;cases n with
 |zero=>
  have e:(cur.toList.take o++(List.replicate 0 z.cells.toList).flatten++cur.toList.drop (o+0*K)).toArray=cur:=by simp
  rw[e,setRow_self w g cur te (0,0) hg];simp[Builtin.clear_,run_underlying ht]
 |succ m=>
  have hzc:=jg7 z.cells K hz (m+1);simp[Builtin.clear_,run_underlying ht,hv,hzc,hst]
def jae (K i:Nat) (xs ys:List Value):List Value:=xs.take (i*K)++(ys++xs.drop (i*K))
def jdw (K i:Nat) (xs:List Value):List Value:=xs.take (i*K)++xs.drop ((i+1)*K)
section
variable {cur xs ys:List Value} {K i n cap:Nat}
theorem jfi (hx:cur.take (n*K)=xs) (hs:cur.length=cap*K) (hi:i<n) (hn:n+1≤cap):(cur.take ((i+1)*K)++xs.drop (i*K)++cur.drop ((i+1)*K+(xs.drop (i*K)).length)).length=cap*K:=by
 have h1:(n+1)*K≤cap*K:=Nat.mul_le_mul_right _ hn;have h2:(i+1)*K≤n*K:=Nat.mul_le_mul_right _ hi;have h3:(n+1)*K=n*K+K:=by rw[Nat.add_mul,Nat.one_mul]
 have h4:(i+1)*K=i*K+K:=by rw[Nat.add_mul,Nat.one_mul]
 subst hx;simp only[List.length_append,List.length_take,List.length_drop];omega
theorem jik (hx:cur.take (n*K)=xs) (hs:cur.length=cap*K) (hy:ys.length=K) (hi:i<n) (hn:n+1≤cap) {c1:List Value}
  (h1:c1=cur.take ((i+1)*K)++xs.drop (i*K)++cur.drop ((i+1)*K+(xs.drop (i*K)).length)):
  (c1.take (i*K)++ys++c1.drop (i*K+ys.length)).length=cap*K∧(c1.take (i*K)++ys++c1.drop (i*K+ys.length)).take ((n+1)*K)=jae K i xs ys:=by
 have h2:(n+1)*K≤cap*K:=Nat.mul_le_mul_right _ hn;have h3:(i+1)*K≤n*K:=Nat.mul_le_mul_right _ hi;have h4:(n+1)*K=n*K+K:=by rw[Nat.add_mul,Nat.one_mul]
 have h5:(i+1)*K=i*K+K:=by rw[Nat.add_mul,Nat.one_mul]
 have hl:=jfi hx hs hi hn;rw[←h1] at hl;have hlx:xs.length=n*K:=by subst hx;rw[List.length_take];omega
 have e1:c1.take (i*K)=xs.take (i*K):=by
  subst h1;rw[List.append_assoc,List.take_append_of_le_length (by rw[List.length_take];omega),List.take_take,Nat.min_eq_left (by omega),←hx,List.take_take,Nat.min_eq_left (by omega)]
 have e2:c1.drop (i*K+ys.length)=xs.drop (i*K)++cur.drop ((i+1)*K+(xs.drop (i*K)).length):=by
  subst h1;rw[hy,←h5,List.append_assoc,List.drop_append_of_le_length (by rw[List.length_take];omega),List.drop_eq_nil_of_le (by rw[List.length_take];omega),List.nil_append]
 refine⟨by simp only[List.length_append,List.length_take,List.length_drop];omega, ?_⟩;rw[e1,e2];unfold jae;have hlen:(xs.take (i*K)++ys++xs.drop (i*K)).length=(n+1)*K:=by simp only[List.length_append,List.length_take,List.length_drop];omega
 rw[←List.append_assoc,List.take_append_of_le_length (by omega),List.take_of_length_le (by omega),List.append_assoc]
theorem jl9 {G:Nat} {z1 z2:List Value} (hlx:xs.length=n*K) (hy:ys.length=K) (hi:i<n) (hG:n+1≤G) (hz1:z1.length=(n+1 - i)*K) (hz2:z2.length=(G - (n+1))*K) {r0 r1:List Value}
  (h0:r0=xs.take (i*K)++z1++z2) (h1:r1=r0.take (i*K)++ys++r0.drop (i*K+ys.length)):
  r0.length=G*K∧r1.length=G*K∧(r1.take ((i+1)*K)++xs.drop (i*K)++r1.drop ((i+1)*K+(xs.drop (i*K)).length)).length=G*K∧
   (r1.take ((i+1)*K)++xs.drop (i*K)++r1.drop ((i+1)*K+(xs.drop (i*K)).length)).take ((n+1)*K)=jae K i xs ys:=by
 have h3:(i+1)*K≤n*K:=Nat.mul_le_mul_right _ hi;have h4:(n+1)*K=n*K+K:=by rw[Nat.add_mul,Nat.one_mul]
 have h5:(i+1)*K=i*K+K:=by rw[Nat.add_mul,Nat.one_mul]
 have h6:(n+1 - i)*K=(n+1)*K - i*K:=by rw[Nat.sub_mul]
 have h7:(G - (n+1))*K=G*K - (n+1)*K:=by rw[Nat.sub_mul]
 have h8:(n+1)*K≤G*K:=Nat.mul_le_mul_right _ hG;have l0:r0.length=G*K:=by subst h0;simp only[List.length_append,List.length_take];omega
 have l1:r1.length=G*K:=by subst h1;simp only[List.length_append,List.length_take,List.length_drop];omega
 have e1:r1.take ((i+1)*K)=xs.take (i*K)++ys:=by
  subst h1;rw[List.take_append_of_le_length (by simp only[List.length_append,List.length_take];omega),List.take_of_length_le (by simp only[List.length_append,List.length_take];omega)]
  congr 1
  subst h0;rw[List.append_assoc,List.take_append_of_le_length (by rw[List.length_take];omega),List.take_take,Nat.min_self]
 refine⟨l0,l1,by simp only[List.length_append,List.length_take,List.length_drop];omega, ?_⟩;rw[e1];unfold jae;rw[List.take_append_of_le_length (by simp only[List.length_append,List.length_take,List.length_drop];omega),List.take_of_length_le (by simp only[List.length_append,List.length_take,List.length_drop];omega),List.append_assoc]
theorem jo8 (hx:cur.take (n*K)=xs) (hs:cur.length=cap*K) (hi:i<n) (hn:n≤cap) {z:List Value} (hz:z.length=K) {c1:List Value}
  (h1:c1=cur.take (i*K)++xs.drop ((i+1)*K)++cur.drop (i*K+(xs.drop ((i+1)*K)).length)):
  c1.length=cap*K∧(c1.take ((n - 1)*K)++z++c1.drop ((n - 1)*K+1*K)).length=cap*K∧(c1.take ((n - 1)*K)++z++c1.drop ((n - 1)*K+1*K)).take ((n - 1)*K)=jdw K i xs:=by
 have h3:(i+1)*K≤n*K:=Nat.mul_le_mul_right _ hi;have h5:(i+1)*K=i*K+K:=by rw[Nat.add_mul,Nat.one_mul]
 have h6:(n - 1)*K=n*K - K:=by rw[Nat.sub_mul,Nat.one_mul]
 have h8:n*K≤cap*K:=Nat.mul_le_mul_right _ hn;have hlx:xs.length=n*K:=by subst hx;rw[List.length_take];omega
 have l1:c1.length=cap*K:=by subst h1;simp only[List.length_append,List.length_take,List.length_drop];omega
 refine⟨l1,by simp only[List.length_append,List.length_take,List.length_drop];omega, ?_⟩;rw[List.append_assoc,List.take_append_of_le_length (by rw[List.length_take];omega),List.take_take,Nat.min_self];subst h1
 rw[List.take_append_of_le_length (by simp only[List.length_append,List.length_take,List.length_drop];omega),List.take_of_length_le (by simp only[List.length_append,List.length_take,List.length_drop];omega)];unfold jdw
 congr 1
 rw[←hx,List.take_take,Nat.min_eq_left (by omega)]
end
theorem V7 {w:World} {g:Nat} (cs:Array Value):w.grownBy (w.setRow g cs) (some g):=
 ⟨rfl,rfl,rfl,by simp,fun k _ hn=>setRow_other w g k cs (fun e=>hn (by rw[e]))⟩
theorem Vy {w w1 w2:World} {r:Option Nat} (h:w.grownBy w1 r) (k:w1.grownBy w2 r):w.grownBy w2 r:=
 ⟨k.os.trans h.os,k.tape.trans h.tape,k.output.trans h.output,Nat.le_trans h.size k.size,fun i hi hn=>(k.block i (Nat.lt_of_lt_of_le hi h.size) hn).trans (h.block i hi hn)⟩
theorem jao (w:World) (r:Option Nat):w.grownBy w.drew r:=⟨rfl,rfl,rfl,Nat.le_refl _,fun _ _ _=>rfl⟩
theorem Yr {w w':World} {v:Value} (h:w.grownBy w' v.ownBlock):Only (Vm v) w w':=
 ⟨h.os,h.tape,h.output,h.size,fun i hi hn=>h.block i hi fun e=>hn (by unfold Vm;rw[←e];simp)⟩
theorem jdi {w:World} {g:Nat} {t:TypeId} {cs:Array Value} (h:Blk w g t cs):w.shape? g=some (t,cs.size):=by
 unfold Blk at h;simp[World.shape?,h]
theorem jcg {w:World} {g:Nat} {t:TypeId} {cs:Array Value} (h:Blk w g t cs) (o:Nat):w.frozen? ⟨g,o,none⟩=false:=by
 unfold Blk at h;simp[World.frozen?,h]
theorem AllR.ins {α:Type} {r:Rp α} {w:World} {l:List α} {xs ys:List Value} {f g:List Nat} {y:α} {i:Nat} (h:AllR r w xs l f) (hi:i≤l.length) (hy:r.R w ys y g):
  ∃f',AllR r w (jae r.k i xs ys) (l.take i++y::l.drop i) f'∧f'.Perm (g++f):=by
 obtain⟨c0,c1,f0,f1,e1,e2,e3,e4,e5⟩:=h.cut i hi;subst e1;subst e2;refine⟨f0++(g++f1), ?_, ?_⟩
 ·have e:jae r.k i (c0++c1) ys=c0++(ys++c1):=by
   unfold jae;rw[←e3,List.take_left,List.drop_left]
  rw[e];exact e4.append ⟨ys,c1,g,f1,rfl,rfl,hy,e5⟩
 ·rw[←List.append_assoc,←List.append_assoc];exact(List.perm_append_comm).append_right f1
theorem AllR.del {α:Type} {r:Rp α} {w:World} {l:List α} {xs:List Value} {f:List Nat} {i:Nat} (h:AllR r w xs l f) (hi:i<l.length):
  ∃f',AllR r w (jdw r.k i xs) (l.eraseIdx i) f'∧f'.Sublist f:=by
 obtain⟨c0,c,c1,f0,g,f1,e1,e2,e3,e4,e5,e6⟩:=h.split hi;subst e1;subst e2;refine⟨f0++f1, ?_,(List.Sublist.refl f0).append (List.sublist_append_right g f1)⟩;have hl:=r.len e5;have e:jdw r.k i (c0++(c++c1))=c0++c1:=by
  unfold jdw;rw[←e3,List.take_left]
  congr 1
  rw[Nat.add_mul,Nat.one_mul,←e3,←List.append_assoc,show c0.length+r.k=(c0++c).length by rw[List.length_append,hl],List.drop_left]
 rw[e,List.eraseIdx_eq_take_drop_succ];exact e4.append e6
def bLt (a b:ByteArray):Bool:=Op.bytesLess a.toList b.toList
def Zm {α:Type} (lt:α→Bool) (x:α) (l:List α):List α:=l.takeWhile lt++x::l.dropWhile lt
def Y3 (f:File):Bool:=Xm f.path&& !decide (f.path=ByteArray.empty)&&decide (f.bytes.size≤6)
def jdv (a b:File):Bool:=bLt a.path b.path&& !Jq a.path b.path
def Y1 (l:List File):Bool:=decide (l.length≤60)&&l.all Y3&&decide (l.Pairwise fun a b=>jdv a b=true)
def jbj (l:List File) (path:ByteArray):Option Nat:=l.findIdx? fun f=>decide (f.path=path)
def Zf (l:List File) (e:Wz):Option (List File):=match jbj l e.path with
 |none=>if e.gone then none else some (Zm (fun g=>bLt g.path e.path) ⟨e.path,e.bytes⟩ l)
 |some k=>if e.gone then(if e.bytes=ByteArray.empty then some (l.eraseIdx k) else none) else some (l.set k ⟨e.path,e.bytes⟩)
def Z9:List File→List Wz→Option (List File)
 |l,[]=>some l
 |l,e::es=>match Zf l e with
  |none=>none
  |some l'=>Z9 l' es
def Yu (l:List File) (es:List Wz):Option (List File):=if Y1 l=true∧es.length≤4 then
  match Z9 l es with
  |none=>none
  |some o=>if Y1 o then some o else none
 else none
def Yq (l:List File) (path:ByteArray):List File:=l.filter fun f=>Jq path f.path
def Yg (es:List Wz):Nat:=(es.map fun e=>e.path.size+e.bytes.size).sum
def readable (Uz:List Yt) (user:Int) (ref:ByteArray) (l:List File):List File:=l.filter fun f=>Yz Uz user ref f.path false
def usersOk (keys used:List Int):Bool:=inB keys.length 1 4&&decide (used.length=keys.length)&&keys.all (fun n=>inB n 1 9999)&&used.all (fun n=>inB n 0 200)
def Xv (r:Ref):Bool:=inB r.count 0 14&&inB r.Vz.length 1 3&&r.Vz.all Y1
def jay (l:List ByteArray):Bool:=l.all Y5&&decide (l.Pairwise fun a b=>bLt a b=true)
def repoOk (users:Int) (p:Xq):Bool:=p.Fz.all Xv&&jay (p.Fz.map (·.name))&&inB p.Az 1 users&&J5 p.Uz&&decide (p.Fz.length≤3)
def Ys (m:Jl):Bool:=usersOk m.keys m.used&&inB m.Rz.length 1 3&&m.Rz.all (repoOk m.keys.length)
def Y7 (l:List Ref) (name:ByteArray):Option Nat:=l.findIdx? fun x=>decide (x.name=name)
def version (vs:List (List File)) (back:Int):Option (List File):=if 0≤back∧back<vs.length then vs[vs.length - 1 - back.toNat]? else none
def Xn (m:Jl) (repo:Int) (name:ByteArray) (back:Int):Option (List File):=if 0≤repo then
  match m.Rz[repo.toNat]? with
  |none=>none
  |some p=>match Y7 p.Fz name with
   |none=>none
   |some k=>version (p.Fz.getD k Y8).Vz back
 else none
def knows (keys:List Int) (user key:Int):Bool:=inB user 1 keys.length&&decide (keys[(user - 1).toNat]? =some key)
theorem jjs: ∀x:List UInt8,Op.bytesLess x x=false
 | []=>rfl
 |a::x=>by simp[Op.bytesLess,jjs x]
theorem jmb: ∀ {x y z:List UInt8},Op.bytesLess x y=true→Op.bytesLess y z=true→Op.bytesLess x z=true
 |x,y,[],_,h=>by cases y<;>simp[Op.bytesLess] at h
 | [],y,c::z,_,_=>by simp[Op.bytesLess]
 |a::x,[],c::z,h,_=>by simp[Op.bytesLess] at h
 |a::x,b::y,c::z,h,h'=>by
  simp only[Op.bytesLess,Bool.or_eq_true,Bool.and_eq_true,decide_eq_true_eq,beq_iff_eq,UInt8.lt_iff_toNat_lt] at h h' ⊢;rcases h with h|⟨rfl,h⟩
  ·rcases h' with h'|⟨rfl,h'⟩
   ·exact .inl (by omega)
   ·exact .inl h
  ·rcases h' with h'|⟨rfl,h'⟩
   ·exact .inl h'
   ·exact .inr ⟨rfl,jmb h h'⟩
theorem jqr: ∀ {x y:List UInt8},Op.bytesLess x y=false→x≠y→Op.bytesLess y x=true
 | [],[],_,h=>absurd rfl h
 | [],b::y,h,_=>by simp[Op.bytesLess] at h
 |a::x,[],_,_=>by simp[Op.bytesLess]
 |a::x,b::y,h,hn=>by
  simp only[Op.bytesLess,Bool.or_eq_false_iff,Bool.and_eq_false_iff,decide_eq_false_iff_not,beq_eq_false_iff_ne,UInt8.lt_iff_toNat_lt] at h;simp only[Op.bytesLess,Bool.or_eq_true,Bool.and_eq_true,decide_eq_true_eq,beq_iff_eq,UInt8.lt_iff_toNat_lt];by_cases e:a=b
  ·subst e;refine .inr ⟨rfl,jqr ?_ fun h'=>hn (by rw[h'])⟩;rcases h.2 with h'|h'
   ·exact absurd rfl h'
   ·exact h'
  ·have:a.toNat≠b.toNat:=fun h'=>e (UInt8.toNat_inj.1 h');exact .inl (by omega)
theorem jeg (a:ByteArray):bLt a a=false:=jjs _
theorem jd2 {a b c:ByteArray} (h:bLt a b=true) (h':bLt b c=true):bLt a c=true:=jmb h h'
theorem jpd {a b:ByteArray} (h:bLt a b=false) (hn:a≠b):bLt b a=true:=jqr h fun e=>hn (jan e)
theorem bLt_ne {a b:ByteArray} (h:bLt a b=true):a≠b:=fun e=>by subst e;rw[jeg] at h;cases h
theorem jjt {a b:ByteArray} (h:bLt a b=true):bLt b a=false:=by
 cases h':bLt b a
 ·rfl
 ·have:=jd2 h h';rw[jeg] at this;cases this
theorem jpc: ∀ {a b:List UInt8} {t:List UInt8},(∀x∈b,47≤x.toNat)→Op.bytesLess a b=true→Op.bytesLess b (a++47::t)=true→∃s,b=a++47::s
 | [],[],_,_,h,_=>by simp[Op.bytesLess] at h
 | [],x::b,t,hb,_,h=>by
  simp only[List.nil_append,Op.bytesLess,Bool.or_eq_true,Bool.and_eq_true,decide_eq_true_eq,beq_iff_eq,UInt8.lt_iff_toNat_lt] at h;have h1:=hb x (by simp);rcases h with h|⟨rfl,h⟩
  ·have:(47:UInt8).toNat=47:=rfl;omega
  ·exact⟨b,rfl⟩
 |y::a,[],_,_,h,_=>by simp[Op.bytesLess] at h
 |y::a,z::b,t,hb,h,h'=>by
  simp only[List.cons_append,Op.bytesLess,Bool.or_eq_true,Bool.and_eq_true,decide_eq_true_eq,beq_iff_eq,UInt8.lt_iff_toNat_lt] at h h';have e:y=z∧Op.bytesLess a b=true∧Op.bytesLess b (a++47::t)=true:=by
   rcases h with h|⟨rfl,h⟩<;>rcases h' with h'|⟨e,h'⟩
   ·omega
   ·subst e;omega
   ·omega
   ·exact⟨rfl,h,h'⟩
  obtain⟨rfl,h1,h2⟩:=e;obtain⟨s,rfl⟩:=jpc (fun x hx=>hb x (by simp[hx])) h1 h2;exact⟨s,rfl⟩
theorem jh4 {c b:UInt8} : ∀ {l:List UInt8},b∈l→b=c∨∃p∈jcy c l,b∈p
 |x::l,h=>by
  unfold jcy;by_cases e:x=c
  ·rw[if_pos e];rcases List.mem_cons.1 h with rfl|h
   ·exact .inl e
   ·rcases jh4 h with h|⟨p,hp,hb⟩
    ·exact .inl h
    ·exact .inr ⟨p,by simp[hp],hb⟩
  ·rw[if_neg e];split
   ·rename_i h0;exact absurd h0 (jh3 c l)
   ·rename_i y ys h0
    rcases List.mem_cons.1 h with rfl|h
    ·exact .inr ⟨b::y,by simp,by simp⟩
    ·rcases jh4 h with h|⟨p,hp,hb⟩
     ·exact .inl h
     ·rw[h0] at hp;rcases List.mem_cons.1 hp with rfl|hp
      ·exact .inr ⟨x::p,by simp,by simp[hb]⟩
      ·exact .inr ⟨p,by simp[hp],hb⟩
theorem jog {s:ByteArray} (h:Xm s=true): ∀x∈s.data.toList,47≤x.toNat:=fun x hx=>by
 unfold Xm at h;rcases Bool.or_eq_true_iff.1 h with h|h
 ·have:=of_decide_eq_true h;subst this;cases hx
 ·obtain⟨h1,_⟩:=Bool.and_eq_true_iff.1 h;rcases jh4 (c:=47) hx with rfl|⟨p,hp,hb⟩
  ·exact Nat.le_refl 47
  ·have h2:=List.all_eq_true.1 h1 ⟨p.toArray⟩ (by unfold jf8;exact List.mem_map.2 ⟨p,hp,rfl⟩);simp only[Y5,Bool.and_eq_true] at h2;have h3:=List.all_eq_true.1 h2.2 x (by simpa using hb);simp only[lowB,Bool.and_eq_true,decide_eq_true_eq] at h3;omega
theorem jox (p s:ByteArray):jfv p s=true↔∃t,s.data.toList=p.data.toList++t:=by
 unfold jfv;rw[List.isPrefixOf_iff_prefix];exact⟨fun⟨t,h⟩=>⟨t,h.symm⟩,fun⟨t,h⟩=>⟨t,h.symm⟩⟩
theorem jj6 (a:ByteArray):(a++⟨#[47]⟩:ByteArray).data.toList=a.data.toList++ [47]:=by
 rw[ByteArray.data_append];simp
theorem jid {a b:ByteArray} (ha:Xm a=true) (hb:Xm b=true):Jq a b=true↔a=ByteArray.empty∨a=b∨∃t,b.data.toList=a.data.toList++47::t:=by
 rw[Vt ha hb];simp only[Bool.or_eq_true,decide_eq_true_eq,jox,jj6,List.append_assoc,List.cons_append,List.nil_append,or_assoc]
theorem jha {a b c:ByteArray} (ha:Xm a=true) (hb:Xm b=true) (hc:Xm c=true) (h1:bLt a b=true) (h2:bLt b c=true) (h:Jq a c=true):Jq a b=true:=by
 rw[jid ha hc] at h;rw[jid ha hb];rcases h with h|h|⟨t,h⟩
 ·exact .inl h
 ·subst h;have:=jjt h1;rw[h2] at this;cases this
 ·unfold bLt at h1 h2;rw[ByteArray.toList_eq,ByteArray.toList_eq] at h1 h2;rw[h] at h2;exact .inr (.inr (jpc (jog hb) h1 h2))
/-- rightly behind the one ahead -/
def Xp {α:Type} (R:α→α→Bool) (l:List α) (i:Nat):Bool:=match i with
 | 0=>true
 |j+1=>match l[j]?,l[j+1]? with
  |some a,some b=>R a b
  |_,_=>true
theorem W6 {α:Type} {R:α→α→Bool} {l:List α} {j:Nat} (h:j+1<l.length):Xp R l (j+1)=R l[j] l[j+1]:=by
 simp[Xp,List.getElem?_eq_getElem h,List.getElem?_eq_getElem (show j<l.length by omega)]
theorem jcw {α:Type} {R:α→α→Bool} {l:List α} (ht: ∀a∈l,∀b∈l,∀c∈l,R a b=true→R b c=true→R a c=true) (h: ∀i,i<l.length→Xp R l i=true):l.Pairwise fun a b=>R a b=true:=by
 have key: ∀d i,∀(hj:i+1+d<l.length),R l[i] l[i+1+d]=true:=by
  intro d
  induction d with
  |zero=>intro i hj;have:=h (i+1) hj;rwa [W6 hj] at this
  |succ d ih=>
   intro i hj;have h1:=ih i (by omega);have h2:=h (i+1+d+1) (by omega);rw[W6 (by omega)] at h2;exact ht _ (List.getElem_mem _) _ (List.getElem_mem _) _ (List.getElem_mem _) h1 h2
 rw[List.pairwise_iff_getElem];intro i j hi hj hlt;obtain⟨d,rfl⟩: ∃d,j=i+1+d:=⟨j - i - 1,by omega⟩;exact key d i hj
theorem jcs {α:Type} {R:α→α→Bool} {l:List α} (h:l.Pairwise fun a b=>R a b=true): ∀i,i<l.length→Xp R l i=true
 | 0,_=>rfl
 |j+1,hi=>by
  rw[W6 hi];exact(List.pairwise_iff_getElem.1 h) j (j+1) (by omega) hi (by omega)
theorem jjm {a b c:File} (ha:Y3 a=true) (hb:Y3 b=true) (hc:Y3 c=true) (h:jdv a b=true) (h':jdv b c=true):jdv a c=true:=by
 simp only[jdv,Y3,Bool.and_eq_true,Bool.not_eq_true'] at*;refine⟨jd2 h.1 h'.1, ?_⟩;cases hu:Jq a.path c.path
 ·rfl
 ·have:=jha ha.1.1 hb.1.1 hc.1.1 h.1 h'.1 hu;rw[h.2] at this;cases this
theorem Yo {l:List File} :Y1 l=true↔l.length≤60∧(∀f∈l,Y3 f=true)∧l.Pairwise fun a b=>jdv a b=true:=by
 simp[Y1,and_assoc]
theorem jj5 {l:List File} :Y1 l=(decide (l.length≤60)&&l.all Y3&&jd3 l.length (Xp jdv l)):=by
 rw[Bool.eq_iff_iff];simp only[Y1,Bool.and_eq_true,decide_eq_true_eq,List.all_eq_true,Wq];constructor
 ·rintro⟨h1,h2⟩;exact⟨h1,fun i hi=>jcs h2 i hi⟩
 ·rintro⟨h1,h2⟩;exact⟨h1,jcw (fun a ha b hb c hc h h'=>jjm (h1.2 a ha) (h1.2 b hb) (h1.2 c hc) h h') h2⟩
theorem jif {l:List File} (h:Y1 l=true) (p:File→Bool):Y1 (l.filter p)=true:=by
 obtain⟨h1,h2,h3⟩:=Yo.1 h;exact Yo.2 ⟨Nat.le_trans (List.length_filter_le _ _) h1,fun f hf=>h2 f (List.mem_filter.1 hf).1,h3.filter p⟩
section
variable {α:Type} {lt:α→Bool} {x:α} {l:List α} {k:Nat}
theorem jih (h: ∀i (hi:i<l.length),i<k→lt l[i]=true) (hk:k≤l.length) (hn: ∀(hi:k<l.length),lt l[k]=false):l.takeWhile lt=l.take k∧l.dropWhile lt=l.drop k:=by
 induction l generalizing k with
 |nil=>simp
 |cons y l ih=>
  cases k with
  |zero=>
   have h0:=hn (by simp);simp only[List.getElem_cons_zero] at h0;simp[h0]
  |succ k=>
   have h0:=h 0 (by simp) (by omega);simp only[List.getElem_cons_zero] at h0;have:=ih (k:=k) (fun i hi hlt=>h (i+1) (Nat.succ_lt_succ hi) (by omega)) (by simpa using hk) (fun hi=>hn (Nat.succ_lt_succ hi));simp[h0,this.1,this.2]
theorem jck (h: ∀i (hi:i<l.length),i<k→lt l[i]=true) (hk:k≤l.length) (hn: ∀(hi:k<l.length),lt l[k]=false):Zm lt x l=l.take k++x::l.drop k:=by
 obtain⟨h1,h2⟩:=jih h hk hn;rw[Zm,h1,h2]
theorem jaw:(Zm lt x l).length=l.length+1:=by
 have:=congrArg List.length (List.takeWhile_append_dropWhile (p:=lt) (l:=l));simp only[List.length_append] at this;simp only[Zm,List.length_append,List.length_cons];omega
theorem jfo {y:α} :y∈Zm lt x l↔y=x∨y∈l:=by
 have h:y∈l↔y∈l.takeWhile lt∨y∈l.dropWhile lt:=by rw[←List.mem_append,List.takeWhile_append_dropWhile]
 simp only[Zm,List.mem_append,List.mem_cons,h];exact or_left_comm
end
def atB {α:Type} (p:α→Bool) (l:List α) (i:Nat):Bool:=match l[i]? with
 |some a=>p a
 |none=>true
theorem Z7 {α:Type} {p:α→Bool} {l:List α} {i:Nat} (h:i<l.length):atB p l i=p l[i]:=by
 unfold atB;rw[List.getElem?_eq_getElem h]
theorem jal {α:Type} (p:α→Bool) (l:List α):jd3 l.length (atB p l)=l.all p:=by
 rw[Bool.eq_iff_iff,Wq,List.all_eq_true];constructor
 ·intro h x hx;obtain⟨i,hi,rfl⟩:=List.mem_iff_getElem.1 hx;have:=h i hi;rwa [Z7 hi] at this
 ·intro h i hi;rw[Z7 hi];exact h _ (List.getElem_mem hi)
theorem jbk (n:Nat) (f g:Nat→Bool):jd3 n (fun i=>f i&&g i)=(jd3 n f&&jd3 n g):=by
 rw[Bool.eq_iff_iff,Bool.and_eq_true,Wq,Wq,Wq];constructor
 ·intro h;exact⟨fun i hi=>(Bool.and_eq_true_iff.1 (h i hi)).1,fun i hi=>(Bool.and_eq_true_iff.1 (h i hi)).2⟩
 ·rintro⟨h1,h2⟩ i hi;exact Bool.and_eq_true_iff.2 ⟨h1 i hi,h2 i hi⟩
theorem jg6 {n:Nat} {f g:Nat→Bool} (h: ∀i,i<n→f i=g i):jd3 n f=jd3 n g:=by
 rw[Bool.eq_iff_iff,Wq,Wq];exact⟨fun k i hi=>by rw[←h i hi];exact k i hi,fun k i hi=>by rw[h i hi];exact k i hi⟩
theorem jmi {α:Type} (R S:α→α→Bool) (l:List α) (i:Nat):Xp (fun a b=>R a b&&S a b) l i=(Xp R l i&&Xp S l i):=by
 cases i with
 |zero=>rfl
 |succ j=>
  simp only[Xp];generalize l[j]? =x;generalize l[j+1]? =y;cases x<;>cases y<;>simp
def je7 (l:List File) (i:Nat):Bool:=atB Y3 l i&&Xp (fun a b=>bLt a.path b.path) l i
def jql (l:List File) (i:Nat):Bool:=Xp (fun a b=> !Jq a.path b.path) l i
def jpl (l:List File) (i:Nat):Bool:=atB (fun f=> !((l.take i).any fun g=>Jq g.path f.path)) l i
theorem jn2 {l:List File} (h:0<l.length):je7 l 0=Y3 l[0]:=by
 unfold je7;rw[Z7 h];simp[Xp]
theorem jn3 {l:List File} {j:Nat} (h:j+1<l.length):je7 l (j+1)=(Y3 l[j+1]&&bLt l[j].path l[j+1].path):=by
 unfold je7;rw[Z7 h,W6 h]
theorem jig {l:List File} {j:Nat} (h:j+1<l.length):jql l (j+1)= !Jq l[j].path l[j+1].path:=by
 unfold jql;rw[W6 h]
theorem jhb {l:List File} {i:Nat} (h:i<l.length):jpl l i= !((l.take i).any fun g=>Jq g.path l[i].path):=by
 unfold jpl;rw[Z7 h]
theorem jbu (l:List File):Y1 l=(decide (l.length≤60)&&jd3 l.length (je7 l)&&jd3 l.length (jql l)):=by
 rw[jj5];have e1:jd3 l.length (je7 l)=(l.all Y3&&jd3 l.length (Xp (fun a b=>bLt a.path b.path) l)):=by
  rw[←jal,←jbk];rfl
 have e2:jd3 l.length (Xp jdv l)=(jd3 l.length (Xp (fun a b=>bLt a.path b.path) l)&&jd3 l.length (jql l)):=by
  rw[←jbk];exact jg6 fun i _=>jmi _ _ l i
 rw[e1,e2];simp only[Bool.and_assoc]
theorem jbv (l:List File):Y1 l=(decide (l.length≤60)&&jd3 l.length fun i=>je7 l i&&jpl l i):=by
 rw[Bool.eq_iff_iff];constructor
 ·intro h;have h1:=(Yo.1 h).1;have h3:=(Yo.1 h).2.2;rw[jbu,Bool.and_eq_true,Bool.and_eq_true] at h;rw[jbk,Bool.and_eq_true,Bool.and_eq_true];refine⟨h.1.1,h.1.2,Wq.2 fun i hi=> ?_⟩;rw[jhb hi,Bool.not_eq_true',List.any_eq_false];intro x hx;obtain⟨j,hj,rfl⟩:=List.mem_take_iff_getElem.1 hx;have:=(List.pairwise_iff_getElem.1 h3) j i (by omega) hi (by omega)
  simp only[jdv,Bool.and_eq_true,Bool.not_eq_true'] at this;simp[this.2]
 ·intro h;rw[jbk,Bool.and_eq_true,Bool.and_eq_true] at h;rw[jbu,Bool.and_eq_true,Bool.and_eq_true];refine⟨⟨h.1,h.2.1⟩,Wq.2 fun i hi=> ?_⟩;cases i with
  |zero=>rfl
  |succ j=>
   have h3:=Wq.1 h.2.2 (j+1) hi;rw[jhb hi,Bool.not_eq_true',List.any_eq_false] at h3;have:=h3 l[j] (List.mem_take_iff_getElem.2 ⟨j,by omega,rfl⟩);rw[jig hi];simpa using this
theorem jmh {α β:Type} (f:α→β) (R:β→β→Bool) (l:List α) (i:Nat):Xp R (l.map f) i=Xp (fun a b=>R (f a) (f b)) l i:=by
 cases i with
 |zero=>rfl
 |succ j=>
  simp only[Xp,List.getElem?_map];generalize l[j]? =x;generalize l[j+1]? =y;cases x<;>cases y<;>rfl
theorem atB_map {α β:Type} (f:α→β) (p:β→Bool) (l:List α) (i:Nat):atB p (l.map f) i=atB (fun a=>p (f a)) l i:=by
 unfold atB;rw[List.getElem?_map];cases l[i]?<;>rfl
theorem atB_and {α:Type} (p q:α→Bool) (l:List α) (i:Nat):atB (fun a=>p a&&q a) l i=(atB p l i&&atB q l i):=by
 unfold atB;cases l[i]?<;>rfl
def jdl (l:List ByteArray) (i:Nat):Bool:=atB Y5 l i&&Xp bLt l i
theorem jdk (l:List ByteArray):jay l=jd3 l.length (jdl l):=by
 unfold jdl;rw[jbk,jal];unfold jay
 congr 1
 rw[Bool.eq_iff_iff,decide_eq_true_iff,Wq];exact⟨fun h i hi=>jcs h i hi,fun h=>jcw (fun a _ b _ c _ h h'=>jd2 h h') h⟩
def jd8 (l:List Ref) (i:Nat):Bool:=atB (fun x=>Y5 x.name&&Xv x) l i&&Xp (fun a b=>bLt a.name b.name) l i
theorem jmp {l:List Ref} (h:0<l.length):jd8 l 0=(Y5 l[0].name&&Xv l[0]):=by
 unfold jd8;rw[Z7 h];simp[Xp]
theorem jmq {l:List Ref} {j:Nat} (h:j+1<l.length):jd8 l (j+1)=(Y5 l[j+1].name&&Xv l[j+1]&&bLt l[j].name l[j+1].name):=by
 unfold jd8;rw[Z7 h,W6 h]
theorem jip (u:Int) (p:Xq):repoOk u p=(inB p.Az 1 u&&J5 p.Uz&&decide (p.Fz.length≤3)&&jd3 p.Fz.length (jd8 p.Fz)):=by
 have e:jd3 p.Fz.length (jd8 p.Fz)=(p.Fz.all Xv&&jay (p.Fz.map (·.name))):=by
  rw[jdk,List.length_map,←jal,←jbk];refine jg6 fun i _=> ?_;unfold jd8 jdl;rw[atB_and,atB_map,jmh];cases atB (fun a=>Y5 a.name) p.Fz i<;>cases atB Xv p.Fz i<;>simp
 rw[e];unfold repoOk;generalize p.Fz.all Xv=b1;generalize jay (p.Fz.map (·.name))=b2;generalize inB p.Az 1 u=b3;generalize J5 p.Uz=b4;generalize decide (p.Fz.length≤3)=b5;cases b1<;>cases b2<;>cases b3<;>cases b4<;>cases b5<;>rfl
theorem Zi {l:List Yt} :J5 l=true↔l.length≤6∧(∀r∈l,jac r=true)∧l.Nodup:=by
 unfold J5;simp only[Bool.and_eq_true,decide_eq_true_eq,Wq];constructor
 ·rintro⟨h1,h2⟩;refine⟨h1,fun r hr=> ?_, ?_⟩
  ·obtain⟨i,hi,rfl⟩:=List.mem_iff_getElem.1 hr;have:=h2 i hi;rw[jdh hi,Bool.and_eq_true] at this;exact this.1
  ·rw[List.nodup_iff_pairwise_ne,List.pairwise_iff_getElem];intro i j hi hj hlt e;have:=h2 j hj;rw[jdh hj,Bool.and_eq_true,Bool.not_eq_true',List.any_eq_false] at this;have h3:=this.2 l[i] (List.mem_take_iff_getElem.2 ⟨i,by omega,rfl⟩);simp[e] at h3
 ·rintro⟨h1,h2,h3⟩;refine⟨h1,fun i hi=> ?_⟩;rw[jdh hi,h2 _ (List.getElem_mem hi),Bool.true_and,Bool.not_eq_true',List.any_eq_false];intro x hx;obtain⟨j,hj,rfl⟩:=List.mem_take_iff_getElem.1 hx;rw[List.nodup_iff_pairwise_ne,List.pairwise_iff_getElem] at h3;have:=h3 j i (by omega) hi (by omega);simp[this]
theorem jhi {l:List Yt} (h:J5 l=true) (r:Yt):J5 (Yy l r)=true:=by
 obtain⟨h1,h2,h3⟩:=Zi.1 h;exact Zi.2 ⟨Nat.le_trans (List.length_filter_le _ _) h1,fun x hx=>h2 x (List.mem_filter.1 hx).1,h3.filter _⟩
theorem jhh {l:List Yt} {r:Yt} (h:Zc l r=true):J5 (Yk l r)=true∧Yk l r=l++ [r]∧r∉l:=by
 have e:Yk l r=l++ [r]:=by unfold Yk;rw[h];rfl
 unfold Zc at h;simp only[Bool.and_eq_true,Bool.not_eq_true',decide_eq_false_iff_not,List.any_eq_false,decide_eq_true_eq] at h;obtain⟨⟨⟨h1,h2⟩,h3⟩,h4⟩:=h;have hn:r∉l:=fun hm=>h4 r hm rfl;obtain⟨k1,k2,k3⟩:=Zi.1 h1;refine⟨?_,e,hn⟩;rw[e];refine Zi.2 ⟨by simp;omega,fun x hx=> ?_, ?_⟩
 ·rcases List.mem_append.1 hx with hx|hx
  ·exact k2 x hx
  ·rw[List.mem_singleton.1 hx];exact h2
 ·refine List.nodup_append.2 ⟨k3,by simp,fun a ha b hb e=> ?_⟩;rw[List.mem_singleton.1 hb] at e;subst e;exact hn ha
def asc {α:Type} (key:α→ByteArray) (l:List α):Prop:=l.Pairwise fun a b=>bLt (key a) (key b)=true
section
variable {α:Type} {key:α→ByteArray} {l:List α} {x:α}
theorem jpe:asc key l↔(l.map key).Pairwise fun a b=>bLt a b=true:=by unfold asc;rw[List.pairwise_map]
theorem jju (h:asc key l) (hn: ∀y∈l,key y≠key x):asc key (Zm (fun g=>bLt (key g) (key x)) x l):=by
 induction l with
 |nil=>simp[Zm,asc]
 |cons y l ih=>
  obtain⟨h1,h2⟩:=List.pairwise_cons.1 h;cases hb:bLt (key y) (key x)
  ·have e:Zm (fun g=>bLt (key g) (key x)) x (y::l)=x::y::l:=by simp[Zm,hb]
   have hx:=jpd hb (hn y (by simp));rw[e];refine List.pairwise_cons.2 ⟨fun z hz=> ?_,h⟩;rcases List.mem_cons.1 hz with rfl|hz
   ·exact hx
   ·exact jd2 hx (h1 z hz)
  ·have e:Zm (fun g=>bLt (key g) (key x)) x (y::l)=y::Zm (fun g=>bLt (key g) (key x)) x l:=by simp[Zm,hb]
   rw[e];refine List.pairwise_cons.2 ⟨fun z hz=> ?_,ih h2 fun z hz=>hn z (by simp[hz])⟩;rcases jfo.1 hz with rfl|hz
   ·exact hb
   ·exact h1 z hz
theorem jjv (h:asc key l) (k:Nat):asc key (l.eraseIdx k):=h.sublist (List.eraseIdx_sublist _ _)
theorem jln {k:Nat} (h:asc key l) (hk:k<l.length) (he:key x=key l[k]):asc key (l.set k x):=by
 rw[jpe] at*;rw[List.map_set,he,show key l[k]=(l.map key)[k]'(by simpa using hk) by simp,List.set_getElem_self];exact h
theorem jl8 {name:ByteArray} (h:l.findIdx? (fun y=>decide (key y=name))=none): ∀y∈l,key y≠name:=fun y hy e=>by
 have:=List.findIdx?_eq_none_iff.1 h y hy;simp[e] at this
theorem je8 {name:ByteArray} {k:Nat} (h:l.findIdx? (fun y=>decide (key y=name))=some k): ∃hk:k<l.length,key l[k]=name:=by
 obtain⟨hk,hp,_⟩:=List.findIdx?_eq_some_iff_getElem.1 h;exact⟨hk,by simpa using hp⟩
theorem jjk: ∀(l out:List α),asc key (out++l)→l.foldl (fun o f=>Zm (fun g=>bLt (key g) (key f)) f o) out=out++l
 | [],out,_=>by simp
 |f::l,out,h=>by
  have h1: ∀y∈out,bLt (key y) (key f)=true:=fun y hy=>(List.pairwise_append.1 h).2.2 y hy f (by simp);have e:Zm (fun g=>bLt (key g) (key f)) f out=out++ [f]:=by
   have:=(jck (lt:=fun g=>bLt (key g) (key f)) (x:=f) (l:=out) (k:=out.length) (fun i hi _=>h1 _ (List.getElem_mem hi)) nle (fun hi=>absurd hi (Nat.lt_irrefl _)));simpa using this
  rw[List.foldl_cons,e,jjk l (out++ [f]) (by simpa using h)];simp
end
theorem jn1 {l:List File} (h:Y1 l=true):asc File.path l:=(Yo.1 h).2.2.imp fun h=>(Bool.and_eq_true_iff.1 h).1
theorem jnz {l o:List File} {e:Wz} (h:asc File.path l) (ht:Zf l e=some o):asc File.path o:=by
 unfold Zf at ht;cases hi:jbj l e.path with
 |none=>
  rw[hi] at ht;simp only at ht;split at ht
  ·cases ht
  ·cases ht;exact jju (key:=File.path) (x:=⟨e.path,e.bytes⟩) h (jl8 (key:=File.path) hi)
 |some k=>
  rw[hi] at ht;simp only at ht;obtain⟨hk,he⟩:=je8 (key:=File.path) hi;split at ht
  ·split at ht
   ·cases ht;exact jjv h k
   ·cases ht
  ·cases ht;exact jln (key:=File.path) h hk he.symm
theorem jie {l o:List File} {e:Wz} (ht:Zf l e=some o):o.length≤l.length+1:=by
 unfold Zf at ht;cases hi:jbj l e.path with
 |none=>
  rw[hi] at ht;simp only at ht;split at ht
  ·cases ht
  ·cases ht;rw[jaw];exact Nat.le_refl _
 |some k=>
  rw[hi] at ht;simp only at ht;split at ht
  ·split at ht
   ·cases ht;have:=List.length_eraseIdx_le l k;omega
   ·cases ht
  ·cases ht;simp
theorem jnx {l o:List File} {e:Wz} (ht:Zf l e=some o) {f:File} (hf:f∈o):f=⟨e.path,e.bytes⟩∨f∈l:=by
 unfold Zf at ht;cases hi:jbj l e.path with
 |none=>
  rw[hi] at ht;simp only at ht;split at ht
  ·cases ht
  ·cases ht;exact jfo.1 hf
 |some k=>
  rw[hi] at ht;simp only at ht;split at ht
  ·split at ht
   ·cases ht;exact .inr ((List.eraseIdx_sublist l k).subset hf)
   ·cases ht
  ·cases ht;exact(List.mem_or_eq_of_mem_set hf).symm
theorem jbs {l o:List File} {es:List Wz} (h:Yu l es=some o):Y1 o=true:=by
 unfold Yu at h;split at h
 ·split at h
  ·cases h
  ·split at h
   ·cases h;assumption
   ·cases h
 ·cases h
def code (n:Int):Ans:=⟨n,[],[],0⟩
def look (p:Xq) (r:Req):Ans:=if Wt p.Uz r.user r.ref then
  match Y7 p.Fz r.ref with
  |none=>code 5
  |some k=>match version (p.Fz.getD k Y8).Vz r.back with
   |none=>code 7
   |some l=>⟨1,readable p.Uz r.user r.ref (Yq l r.path),[],(p.Fz.getD k Y8).count⟩
 else code 4
def jad (p:Xq) (r:Req):Ans:=⟨1,[],(p.Fz.map (·.name)).filter fun n=>Wt p.Uz r.user n,0⟩
def manage (p:Xq) (r:Req):Xq×Int:=
 if r.kind=4 then(if p.Uz.length=6 then(p,9) else if Zc p.Uz r.rule then({ p with Uz:=Yk p.Uz r.rule},1) else(p,7))
 else if r.kind=5 then(if(Yy p.Uz r.rule).length<p.Uz.length then({ p with Uz:=Yy p.Uz r.rule},1) else(p,7))
 else match Y7 p.Fz r.ref with
  |none=>
   if r.kind=6 then(if r.ref=ByteArray.empty then(p,7) else if p.Fz.length=3 then(p,9) else({ p with Fz:=Zm (fun x=>bLt x.name r.ref) ⟨r.ref,false,0,[[]]⟩ p.Fz},1))
   else(p,5)
  |some k=>
   if r.kind=6 then(p,7)
   else if r.kind=8 then({ p with Fz:=p.Fz.set k { p.Fz.getD k Y8 with guard:= !(p.Fz.getD k Y8).guard}},1)
   else if(p.Fz.getD k Y8).guard then(p,8)
   else({ p with Fz:=p.Fz.eraseIdx k},1)
def Yi (m:Jl) (p:Xq) (r:Req):Bool:=
 if r.kind=1 then decide (0<r.Ez.length)&&r.Ez.all fun e=>Yz p.Uz r.user r.ref e.path true
 else Yz p.Uz r.user r.ref ByteArray.empty true&&(decide (r.kind=9)||(match m.Rz[r.frm.toNat]? with
  |none=>false
  |some q=>Yz q.Uz r.user r.other ByteArray.empty false))
def newest (m:Jl) (x:Ref) (r:Req):List File×Int:=
 if r.kind=1 then(match version x.Vz 0 with
  |none=>([],7)
  |some l=>match Yu l r.Ez with
   |none=>([],7)
   |some o=>(o,1))
 else if r.kind=9 then(if x.guard then([],8) else match version x.Vz r.back with
  |none=>([],7)
  |some l=>(l,1))
 else match Xn m r.frm r.other 0 with
  |none=>([],7)
  |some l=>(l,1)
def jgu (l:List (List File)):List (List File):=l.drop (l.length - 3)
def jpm (m:Jl) (p:Xq) (k:Nat) (r:Req) (files:List File):Jl:=
 let x:=p.Fz.getD k Y8
 { m with
  used:=m.used.set (r.user - 1).toNat (m.used.getD (r.user - 1).toNat 0+Yg r.Ez)
  Rz:=m.Rz.set r.repo.toNat { p with Fz:=p.Fz.set k { x with count:=x.count+1,Vz:=jgu (x.Vz++ [files])}}}
def write (m:Jl) (p:Xq) (r:Req):Jl×Int:=
 if Yi m p r then
  match Y7 p.Fz r.ref with
  |none=>(m,5)
  |some k=>
   if(p.Fz.getD k Y8).count≠r.old then(m,6)
   else if(p.Fz.getD k Y8).count=14 then(m,9)
   else if(newest m (p.Fz.getD k Y8) r).2≠1 then(m,(newest m (p.Fz.getD k Y8) r).2)
   else if m.used.getD (r.user - 1).toNat 0+Yg r.Ez > 200 then(m,10)
   else(jpm m p k r (newest m (p.Fz.getD k Y8) r).1,1)
 else(m,4)
def Zn (m:Jl) (r:Req):Jl×Ans:=
 if knows m.keys r.user r.key then
  if r.kind=11 then(m,⟨1,[],[],m.used.getD (r.user - 1).toNat 0⟩)
  else match m.Rz[r.repo.toNat]? with
   |none=>(m,code 3)
   |some p=>
    if r.kind=2 then(m,look p r)
    else if r.kind=3 then(m,jad p r)
    else if Vs r then((write m p r).1,code (write m p r).2)
    else if r.user≠p.Az then(m,code 4)
    else({ m with Rz:=m.Rz.set r.repo.toNat (manage p r).1},code (manage p r).2)
 else(m,code 2)
def jai (m:Jl) (r:Req):Jl×Ans:=if Ys m=true∧Yw r=true then Zn m r else(⟨[],[],[]⟩,⟨0,[],[],0⟩)
end Go.Proofs.YtlkoaobaoffpaaaGreatDoor
