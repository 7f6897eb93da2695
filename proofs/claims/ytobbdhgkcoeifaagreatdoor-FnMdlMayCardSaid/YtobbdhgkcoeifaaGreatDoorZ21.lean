/- Lemmas and walks, joined by program. -/
import Derived.Test.YtobbdhgkcoeifaaGreatDoorZ12
import Derived.Test.YtobbdhgkcoeifaaGreatDoorZ18
namespace Go.Proofs.YtobbdhgkcoeifaaGreatDoor
open Go.RowKit
set_option maxHeartbeats 8000000
set_option maxRecDepth 100000
set_option linter.unusedSimpArgs false
set_option linter.unusedVariables false
def Admd (w:World) (ch:List Value) (fp:List Nat) (m':Jl) (k:Int) (e:Ending) (w':World):Prop:=
 e= .returned (.tuple #[.agg ch.toArray,.int .i64 k])∧(∃fp',Rp.house.R w' ch m' fp'∧∀z∈fp',z∈fp∨w.heap.size≤z)∧Only fp w w'
structure RepoAt (w:World) (ch:List Value) (m:Jl) (fp:List Nat) (p:Xq) (i b:Nat) (cr:List Value) (f:List Nat):Prop where
 typ: ∃cur,w.heap[b]? =some (.cells cur 48 (0,0))
 bin:b∈fp
 bf:b∉f
 fn:f.Nodup
 sub: ∀z∈f,z∈fp
 cells:Cells w b (i*3) cr
 rp:Rp.repoO.R w cr p f
 old: ∀z∈fp,z<w.heap.size
 close: ∀(W':World) (cr':List Value) (y:Xq) (f':List Nat),w.heap.size≤W'.heap.size→(∀j,j<i*3∨i*3+3≤j→W'.cell? ⟨b,j,none⟩=w.cell? ⟨b,j,none⟩)→Cells W' b (i*3) cr'→Rp.repo.R W' cr' y f'→
  (∀z∈fp,z≠b→z∉f→W'.heap[z]? =w.heap[z]?)→∃fp',Rp.house.R W' ch { m with Rz:=m.Rz.set i y} fp'∧∀z∈fp',z∈fp∨z∈f'
theorem jke {w:World} {ch:List Value} {m:Jl} {fp:List Nat} (hh:Rp.houseO.R w ch m fp) (hn:fp.Nodup) {i:Nat} (hi:i<m.Rz.length):
  ∃A0 c0 A1 c1 b c2 B0 b0 B1 b1 f,ch= [.slice A0 m.keys.length c0,.slice A1 m.used.length c1,.slice (some ⟨b,0,none⟩) m.Rz.length c2]∧
   RepoAt w ch m fp m.Rz[i] i b [.int .i64 m.Rz[i].Az,.slice B0 m.Rz[i].Uz.length b0,.slice B1 m.Rz[i].Fz.length b1] f:=by
 obtain⟨A0,n0,c0,f0,A1,n1,c1,f1,b,c2,cur,cr,f,hch,h0,h1,hbt,hbm,hbl,hbf,hfn,hsub,hn1,hd1,hd0,hcr,hR,hcl⟩:=jb9 hh hn hi;obtain rfl:=h0.1;obtain rfl:=h1.1;have hR0:=hR;obtain⟨B0,n2,b0,g0,v,g1,rfl,_,hs0,hO⟩:=hR;obtain⟨B1,b1,f2,rfl,hs1,_,_,_⟩:=hO.sl;obtain rfl:=hs0.1
 refine⟨A0,c0,A1,c1,b,c2,B0,b0,B1,b1,f,hch,⟨⟨cur,hbt⟩,hbm,hbf,hfn,hsub,hcr,hR0,Rp.houseO.lt hh,fun W' cr' y f' hsz hj hc hr hk=> ?_⟩⟩;obtain⟨fq,hq,hqm⟩:=hcl W' cr' y f' m.used f1 hj (Nat.lt_of_lt_of_le hbl hsz) hc hr (h1.keep fun z hz=>hk z (hd1 z hz).1 (hd1 z hz).2.1 (hd1 z hz).2.2) fun z hz hzb hzf _=>hk z hz hzb hzf;refine⟨fq,hq,fun z hz=> ?_⟩;rcases hqm z hz with h|h|h
 ·exact .inl h
 ·exact .inr h
 ·exact .inl (hd1 z h).1
def jhm (w:World) (g o:Nat) (a b c:Value):World:=((w.setCell ⟨g,o,none⟩ a).setCell ⟨g,o+1,none⟩ b).setCell ⟨g,o+2,none⟩ c
theorem Xz {w:World} {g o z:Nat} {a b c:Value} (h:z≠g):(jhm w g o a b c).heap[z]? =w.heap[z]? :=
 (Below.heap_setCell _ _ _ _ h).trans ((Below.heap_setCell _ _ _ _ h).trans (Below.heap_setCell _ _ _ _ h))
theorem jit {w:World} {g o:Nat} {a b c:Value} :(jhm w g o a b c).heap.size=w.heap.size:=by simp[jhm,World.setCell]
theorem jof {w:World} {g o j:Nat} {a b c:Value} (h:j<o∨o+3≤j):(jhm w g o a b c).cell? ⟨g,j,none⟩=w.cell? ⟨g,j,none⟩:=by
 unfold jhm;rw[World.cell?_setCell_other _ _ _ _ (by simp only[ne_eq,Addr.mk.injEq];omega),World.cell?_setCell_other _ _ _ _ (by simp only[ne_eq,Addr.mk.injEq];omega),World.cell?_setCell_other _ _ _ _ (by simp only[ne_eq,Addr.mk.injEq];omega)]
theorem jmt {w:World} {g o:Nat} {a b c x0 x1 x2:Value} (h:Cells w g o [x0,x1,x2]):Cells (jhm w g o a b c) g o [a,b,c]:=
 ((h.put (j:=0) (by simp) a).put (j:=1) (by simp) b).put (j:=2) (by simp) c
section
variable {w W WW:World} {ch:List Value} {m:Jl} {fp:List Nat} {p p':Xq} {i b res:Nat} {f f':List Nat} {s0 s1 s2 t0 t1 t2:Value}
theorem Zl (k:Int) (hh:Rp.houseO.R w ch m fp) (hB:Below w.heap.size w W) (hO:Only [res] W WW) (hres:w.heap.size≤res):Admd w ch fp m k (.returned (.tuple #[.agg ch.toArray,.int .i64 k])) WW:=by
 have hb:=V3 hB hO hres;obtain⟨f,hf,hs⟩:=V8.2 _ _ _ _ (Rp.houseO.below hh hb nle);exact⟨rfl,⟨f,hf,fun z hz=> .inl (hs.subset hz)⟩,Only.of_below hb _⟩
theorem RepoAt.put (h:RepoAt w ch m fp p i b [s0,s1,s2] f) (k:Int) (hB:Below w.heap.size w W) (hp:Rp.repo.R W [t0,t1,t2] p' f') (hf: ∀z∈f',(z∈f∨w.heap.size≤z)∧z≠res)
  (hO:Only [res] (jhm W b (i*3) t0 t1 t2) WW) (hres:w.heap.size≤res):Admd w ch fp { m with Rz:=m.Rz.set i p'} k (.returned (.tuple #[.agg ch.toArray,.int .i64 k])) WW:=by
 have hbl:=h.old _ h.bin;have s1:=hB.size;have s3:WW.heap.size ≥ W.heap.size:=by have:=hO.size;rwa [jit] at this
 have hkz: ∀z,z<W.heap.size→z≠res→WW.heap[z]? =(jhm W b (i*3) t0 t1 t2).heap[z]? :=fun z hz hr=>hO.block z (by rw[jit];exact hz) (by simp[hr]);have hbW:=hkz b (by omega) (by omega);have hk: ∀z,z<W.heap.size→z≠b→z≠res→WW.heap[z]? =W.heap[z]? :=fun z hz hb hr=>(hkz z hz hr).trans (Xz hb)
 have hblk: ∀z,z<w.heap.size→z≠b→WW.heap[z]? =w.heap[z]? :=fun z hz hb=>(hk z (by omega) hb (by omega)).trans (hB.block z hz);obtain⟨fq,hq,hqm⟩:=h.close WW [t0,t1,t2] p' f' (by omega) (fun j hj=>by
   rw[World.cell?_of_block (a:=⟨b,j,none⟩) hbW,jof hj];exact World.cell?_of_block (a:=⟨b,j,none⟩) (hB.block b hbl)) ((jmt (h.cells.keep (hB.block b hbl))).keep hbW)
  (Rp.repo.keep hp fun z hz=>hk z (Rp.repo.lt hp z hz) (fun e=>by
   rcases(hf z hz).1 with h1|h1
   ·exact h.bf (e▸h1)
   ·omega) (hf z hz).2) fun z hz hzb _=>hblk z (h.old z hz) hzb
 have o1:(jhm W b (i*3) t0 t1 t2).os=W.os:=rfl;have o2:(jhm W b (i*3) t0 t1 t2).tape=W.tape:=rfl;have o3:(jhm W b (i*3) t0 t1 t2).output=W.output:=rfl;exact⟨rfl,⟨fq,hq,fun z hz=>(hqm z hz).elim .inl fun h1=>(hf z h1).1.imp (h.sub z) id⟩,⟨hO.os.trans (o1.trans hB.os),hO.tape.trans (o2.trans hB.tape),hO.output.trans (o3.trans hB.output),by omega,fun z hz hm=>hblk z hz fun e=>hm (e▸h.bin)⟩⟩
theorem RepoAt.guard {WA:World} {n c q g:Nat} (h:RepoAt w ch m fp p i b [s0,s1,.slice (some ⟨g,q,none⟩) n c] f) (k:Int) (hB:Below w.heap.size w W) {j:Nat} (hj:j<p.Fz.length)
  (hA:Below W.heap.size (W.setCell ⟨g,q+j*4+1,none⟩ (.bool (!p.Fz[j].guard))) WA) (hO:Only [res] WA WW) (hres:w.heap.size≤res):
  Admd w ch fp { m with Rz:=m.Rz.set i { p with Fz:=p.Fz.set j { p.Fz[j] with guard:= !p.Fz[j].guard}}} k (.returned (.tuple #[.agg ch.toArray,.int .i64 k])) WW:=by
 have hbl:=h.old _ h.bin;have hpW:=Rp.repoO.below h.rp hB nle;obtain⟨B0,m0,d0,g0,g',cap,cf,f3,he,hs0,hgf,hgl,hg3,hn3,hs3,hs30,hcf,hR,hcl⟩:=jhl hpW h.fn hj;simp only[List.cons.injEq,Value.slice.injEq,Option.some.injEq,Addr.mk.injEq,and_true] at he;obtain⟨_,_,⟨rfl,rfl⟩,rfl,rfl⟩:=he;have hgb:g≠b:=fun e=>h.bf (e▸hgf);obtain⟨v,rfl,hOv⟩:=hR;rw[Nat.zero_add] at hA;have z1:=hB.size
 have z2:WA.heap.size ≥ W.heap.size:=by have:=hA.size;simpa [World.setCell] using this
 have z3:=hO.size;have hkz: ∀z,z<W.heap.size→z≠res→WW.heap[z]? =(W.setCell ⟨g,j*4+1,none⟩ (.bool (!p.Fz[j].guard))).heap[z]? :=fun z hz hr=>(hO.block z (by omega) (by simp[hr])).trans (hA.block z hz);have hk: ∀z,z<W.heap.size→z≠g→z≠res→WW.heap[z]? =W.heap[z]? :=fun z hz hg hr=>(hkz z hz hr).trans (Below.heap_setCell _ _ _ _ hg);have hfl: ∀z∈f,z<w.heap.size:=fun z hz=>h.old z (h.sub z hz)
 have hgW:=hkz g hgl (by have:=hfl g hgf;omega);have hcf':=(hcf.put (j:=1) (by simp) (.bool (!p.Fz[j].guard))).keep hgW;have hO':=hOv.keep (w':=WW) fun z hz=>hk z (by have:=hfl z (hs3 z hz);omega) (by rintro rfl;exact hg3 hz) (by have:=hfl z (hs3 z hz);omega)
 obtain⟨f',hf',hsubf⟩:=jbl.2 _ _ _ _ (show Rp.refO.R WW [.string p.Fz[j].name,.bool (!p.Fz[j].guard),.int .i64 p.Fz[j].count,v] { p.Fz[j] with guard:= !p.Fz[j].guard} f3 from⟨v,rfl,hO'⟩);obtain⟨f'',hf'',hfm⟩:=hcl WW _ _ f' (fun l hl=>by
  rw[World.cell?_of_block (a:=⟨g,l,none⟩) hgW];exact World.cell?_setCell_other _ _ _ _ (by simp only[ne_eq,Addr.mk.injEq];omega)) (by omega) hcf' hf' (fun z hz hzg _=>hk z (by have:=hfl z hz;omega) hzg (by have:=hfl z hz;omega))
 have hblk: ∀z,z<w.heap.size→z≠g→WW.heap[z]? =w.heap[z]? :=fun z hz hg=>(hk z (by omega) hg (by omega)).trans (hB.block z hz);obtain⟨fq,hq,hqm⟩:=h.close WW _ _ f'' (by omega) (fun l _=>World.cell?_of_block (a:=⟨b,l,none⟩) (hblk b hbl fun e=>hgb e.symm)) (h.cells.keep (hblk b hbl fun e=>hgb e.symm)) hf'' fun z hz hzb hzf=>hblk z (h.old z hz) fun e=>hzf (e▸hgf)
 have o1:(W.setCell ⟨g,j*4+1,none⟩ (.bool (!p.Fz[j].guard))).os=W.os:=rfl;have o2:(W.setCell ⟨g,j*4+1,none⟩ (.bool (!p.Fz[j].guard))).tape=W.tape:=rfl;have o3:(W.setCell ⟨g,j*4+1,none⟩ (.bool (!p.Fz[j].guard))).output=W.output:=rfl
 exact⟨rfl,⟨fq,hq,fun z hz=> .inl ((hqm z hz).elim id fun h1=>h.sub z ((hfm z h1).elim id fun h2=>hs3 z (hsubf.subset h2)))⟩,⟨hO.os.trans (hA.os.trans (o1.trans hB.os)),hO.tape.trans (hA.tape.trans (o2.trans hB.tape)),hO.output.trans (hA.output.trans (o3.trans hB.output)),by omega,fun z hz hm=>hblk z hz fun e=>hm (e▸h.sub _ hgf)⟩⟩
theorem RepoAt.Uz {A B1:Option Addr} {n c n1 c1:Nat} {l:List Yt} {fr:List Nat} (h:RepoAt w ch m fp p i b [s0,s1,.slice B1 n1 c1] f) (hB:Below w.heap.size w W) (hs:SlR Rp.rule W A n c l fr):
  ∃f',Rp.repo.R W [.int .i64 p.Az,.slice A n c,.slice B1 n1 c1] { p with Uz:=l} f'∧∀z∈f',z∈fr∨z∈f:=by
 obtain⟨A0,n0,c0,f0,v,g1,he,hff,h0,h1⟩:=h.rp;simp only[List.cons.injEq,and_true] at he;obtain⟨rfl,rfl,rfl⟩:=he;obtain⟨A1,c2,f2,hv,hs1,hsub1,_,_⟩:=(h1.step hB).sl;cases hv;obtain⟨g,hg,hsub2⟩:=hs1.le jbl;exact⟨fr++g,⟨A,n,c,fr,B1,_,c1,g,rfl,rfl,hs,hg⟩,fun z hz=>(List.mem_append.1 hz).imp id fun hz=>by rw[hff];exact List.mem_append_right _ (hsub1.subset (hsub2.subset hz))⟩
theorem RepoAt.Fz {A B0:Option Addr} {n c n0 c0:Nat} {l:List Ref} {fr:List Nat} (h:RepoAt w ch m fp p i b [s0,.slice B0 n0 c0,s2] f) (hB:Below w.heap.size w W) (hs:SlR Rp.ref W A n c l fr):
  ∃f',Rp.repo.R W [.int .i64 p.Az,.slice B0 n0 c0,.slice A n c] { p with Fz:=l} f'∧∀z∈f',z∈fr∨z∈f:=by
 obtain⟨A0,n0',c0',f0,v,g1,he,hff,h0,h1⟩:=h.rp;simp only[List.cons.injEq,and_true] at he;obtain⟨rfl,he2,rfl⟩:=he;cases he2;exact⟨f0++fr,⟨B0,n0,c0,f0,A,n,c,fr,rfl,rfl,h0.step hB,hs⟩,fun z hz=>(List.mem_append.1 hz).elim (fun hz=> .inr (by rw[hff];exact List.mem_append_left _ hz)) .inl⟩
end
end Go.Proofs.YtobbdhgkcoeifaaGreatDoor
