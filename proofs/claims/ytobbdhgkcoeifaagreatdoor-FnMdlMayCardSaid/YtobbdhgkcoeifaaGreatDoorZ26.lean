/- Lemmas and walks, joined by program. -/
import Derived.Test.YtobbdhgkcoeifaaGreatDoorZ25
import Derived.Test.YtobbdhgkcoeifaaGreatDoorZ17
import Derived.Test.YtobbdhgkcoeifaaGreatDoorZ4
import Derived.Test.YtobbdhgkcoeifaaGreatDoorZ8
namespace Go.Proofs.YtobbdhgkcoeifaaGreatDoor
open Go.RowKit
attribute [local go_sem ↓] Go.wp_at_zero Go.wp_at_succ
set_option maxHeartbeats 8000000
set_option maxRecDepth 100000
set_option linter.unusedSimpArgs false
set_option linter.unusedVariables false
structure BB (w0:World) (g P:Nat) (m:Jl) (vK vU vR:Value) (f fw:List Nat) (w:World):Prop where
 rd:Rd w g P
 on:Only [g] w0 w
 km:Blk w w0.heap.size 26 #[vK,vU,vR]
 kr:Blk w (w0.heap.size+1) 26 H0
 RO:Rp.houseO.R w [vK,vU,vR] m f
 UO:OwS Rp.int 3 w vU m.used fw
 lo: ∀z∈f,w0.heap.size+1<z
 lw: ∀z∈fw,w0.heap.size+1<z
 ow:f.Nodup∧Free w f
 gl:g<w0.heap.size
def BadR (w0:World) (g P:Nat) (w:World):Prop:=∃x a0 n0 c0 a1 n1 c1 a2 n2 c2 f,Rd w g P∧Only [g] w0 w∧Blk w w0.heap.size 26 #[.slice a0 n0 c0,.slice a1 n1 c1,.slice a2 n2 c2]∧Blk w (w0.heap.size+1) 26 H0∧Rp.house.R w [.slice a0 n0 c0,.slice a1 n1 c1,.slice a2 n2 c2] x f∧(∀z∈f,w0.heap.size+1<z)∧V9 x∧(Ys x=true→(∀k∈x.keys,10≤k)∧(jc0 x∨f.Nodup∧Free w f))
section
variable {w0 w w':World} {g P P':Nat} {m m':Jl} {vK vU vR:Value} {f f' fw:List Nat}
theorem BB.only (h:BB w0 g P m vK vU vR f fw w) (ho:Only [g] w w') (hr:Rd w' g P'):BB w0 g P' m vK vU vR f fw w':=
 have h1:=h.gl;have hk: ∀z∈f,w'.heap[z]? =w.heap[z]? :=fun z hz=>ho.block z (Rp.houseO.lt h.RO z hz) (by have:=h.lo z hz;simp only[List.mem_singleton];omega)
 ⟨hr,h.on.trans ho,h.km.only ho (by simp;omega),h.kr.only ho (by simp;omega),Rp.houseO.keep h.RO hk,h.UO.keep fun z hz=>ho.block z (h.UO.lt z hz) (by have:=h.lw z hz;simp only[List.mem_singleton];omega),h.lo,h.lw,⟨h.ow.1,h.ow.2.keep hk⟩,h1⟩
theorem BB.mono (h:BB w0 g P m vK vU vR f fw w) (hp:P≤P'):BB w0 g P' m vK vU vR f fw w:=⟨h.rd.mono hp,h.on,h.km,h.kr,h.RO,h.UO,h.lo,h.lw,h.ow,h.gl⟩
theorem BB.plain (h:BB w0 g P m vK vU vR f fw w): ∃f',Rp.house.R w [vK,vU,vR] m f'∧f'.Nodup∧Free w f'∧(∀z∈f',w0.heap.size+1<z)∧∀z∈f',z∈f:=by
 obtain⟨f',h1,h2⟩:=V8.2 _ _ _ _ h.RO;exact⟨f',h1,jii h2 h.ow.1,Free.sublist h.ow.2 h2,fun z hz=>h.lo z (h2.subset hz),fun z hz=>h2.subset hz⟩
theorem BB.bad (h:BB w0 g P m vK vU vR f fw w) {b j:Nat} {v:Value} {x:Jl} (hb:w0.heap.size+1<b) (hR:Rp.house.R (w.setCell ⟨b,j,none⟩ v) [vK,vU,vR] x f') (hl: ∀z∈f',w0.heap.size+1<z) (hf:V9 x) (hk:Ys x=true→(∀k∈x.keys,10≤k)∧(jc0 x∨f'.Nodup∧Free (w.setCell ⟨b,j,none⟩ v) f')):BadR w0 g P (w.setCell ⟨b,j,none⟩ v):=by
 have h2:=h.gl;obtain⟨A0,n0,c0,f0,A1,n1,c1,f1,A2,n2,c2,f2,he, -⟩:=id hR;cases he;exact⟨x,_,_,_,_,_,_,_,_,_,f',h.rd.put (by omega) v,h.on.setCell (p:=⟨b,j,none⟩) (.inr (by show w0.heap.size≤b;omega)) v,h.km.far (by omega) v,h.kr.far (by omega) v,hR,hl,hf,hk⟩
theorem BB.same (h:BB w0 g P m vK vU vR f fw w) (hi:MInv m):BadR w0 g P w:=by
 obtain⟨f',h1,h2,h3,h4, -⟩:=h.plain;obtain⟨A0,n0,c0,f0,A1,n1,c1,f1,A2,n2,c2,f2,he, -⟩:=id h1;cases he;exact⟨m,_,_,_,_,_,_,_,_,_,f',h.rd,h.on,h.km,h.kr,h1,h4,hi.fit,fun hk=>⟨by
  rcases hi with hi|hi
  ·exact hi.2
  ·subst hi;exact absurd hk (by decide),.inr ⟨h2,h3⟩⟩⟩
end
theorem BadR.fin {w0 w:World} {g P:Nat} (h:BadR w0 g P w) (hg:g<w0.heap.size): ∃a0 n0 c0 a1 n1 c1 a2 n2 c2,Blk w w0.heap.size 26 #[.slice a0 n0 c0,.slice a1 n1 c1,.slice a2 n2 c2]∧Blk w (w0.heap.size+1) 26 H0∧
  Blk (((w.setCell ⟨w0.heap.size+1,0,none⟩ (.slice a0 n0 c0)).setCell ⟨w0.heap.size+1,1,none⟩ (.slice a1 n1 c1)).setCell ⟨w0.heap.size+1,2,none⟩ (.slice a2 n2 c2)) (w0.heap.size+1) 26 #[.slice a0 n0 c0,.slice a1 n1 c1,.slice a2 n2 c2]∧∃x f,Rp.house.R (((w.setCell ⟨w0.heap.size+1,0,none⟩ (.slice a0 n0 c0)).setCell ⟨w0.heap.size+1,1,none⟩ (.slice a1 n1 c1)).setCell ⟨w0.heap.size+1,2,none⟩ (.slice a2 n2 c2)) [.slice a0 n0 c0,.slice a1 n1 c1,.slice a2 n2 c2] x f∧(∀z∈f,w0.heap.size≤z)∧V9 x∧(Ys x=true→(∀k∈x.keys,10≤k)∧(jc0 x∨f.Nodup∧Free (((w.setCell ⟨w0.heap.size+1,0,none⟩ (.slice a0 n0 c0)).setCell ⟨w0.heap.size+1,1,none⟩ (.slice a1 n1 c1)).setCell ⟨w0.heap.size+1,2,none⟩ (.slice a2 n2 c2)) f))∧Rd (((w.setCell ⟨w0.heap.size+1,0,none⟩ (.slice a0 n0 c0)).setCell ⟨w0.heap.size+1,1,none⟩ (.slice a1 n1 c1)).setCell ⟨w0.heap.size+1,2,none⟩ (.slice a2 n2 c2)) g P∧Only [g] w0 (((w.setCell ⟨w0.heap.size+1,0,none⟩ (.slice a0 n0 c0)).setCell ⟨w0.heap.size+1,1,none⟩ (.slice a1 n1 c1)).setCell ⟨w0.heap.size+1,2,none⟩ (.slice a2 n2 c2)):=by
 obtain⟨x,a0,n0,c0,a1,n1,c1,a2,n2,c2,f,hr,hon,km,kr,hR,hl,hf,hk⟩:=h
 have hO:Only [w0.heap.size+1] w (((w.setCell ⟨w0.heap.size+1,0,none⟩ (.slice a0 n0 c0)).setCell ⟨w0.heap.size+1,1,none⟩ (.slice a1 n1 c1)).setCell ⟨w0.heap.size+1,2,none⟩ (.slice a2 n2 c2)):=(((Only.refl [w0.heap.size+1] w).setCell (p:=⟨w0.heap.size+1,0,none⟩) (.inl (by simp)) (.slice a0 n0 c0)).setCell (p:=⟨w0.heap.size+1,1,none⟩) (.inl (by simp)) (.slice a1 n1 c1)).setCell (p:=⟨w0.heap.size+1,2,none⟩) (.inl (by simp)) (.slice a2 n2 c2)
 have hkk: ∀z∈f,(((w.setCell ⟨w0.heap.size+1,0,none⟩ (.slice a0 n0 c0)).setCell ⟨w0.heap.size+1,1,none⟩ (.slice a1 n1 c1)).setCell ⟨w0.heap.size+1,2,none⟩ (.slice a2 n2 c2)).heap[z]? =w.heap[z]? :=fun z hz=>hO.block z (Rp.house.lt hR z hz) (by have:=hl z hz;simp;omega)
 have k0:Blk _ (w0.heap.size+1) 26 #[.slice a0 n0 c0,.slice none 0 0,.slice none 0 0]:=Jd (i:=0) kr (.slice a0 n0 c0);have k1:Blk _ (w0.heap.size+1) 26 #[.slice a0 n0 c0,.slice a1 n1 c1,.slice none 0 0]:=Jd (i:=1) k0 (.slice a1 n1 c1)
 exact⟨a0,n0,c0,a1,n1,c1,a2,n2,c2,km,kr,Jd (i:=2) k1 (.slice a2 n2 c2),x,f,Rp.house.keep hR hkk,fun z hz=>by have:=hl z hz;omega,hf,fun h=>⟨(hk h).1,(hk h).2.imp id fun j=>⟨j.1,j.2.keep hkk⟩⟩,hr.only (f:=[w0.heap.size+1]) hO (by simp;omega),hon.trans_new hO (by omega)⟩
theorem BadR.mono {w0 w:World} {g P P':Nat} (h:BadR w0 g P w) (hp:P≤P'):BadR w0 g P' w:=by
 obtain⟨x,a0,n0,c0,a1,n1,c1,a2,n2,c2,f,h1,h2⟩:=h;exact⟨x,a0,n0,c0,a1,n1,c1,a2,n2,c2,f,h1.mono hp,h2⟩
theorem MInv.small {m:Jl} (h:MInv m):SmallHouse m:=by
 rcases h with h|rfl
 ·exact SmallHouse.of h.1
 ·exact⟨by decide,by decide,by decide,fun p hp=>absurd hp (by simp),fun p hp=>absurd hp (by simp),fun p hp=>absurd hp (by simp),fun p hp=>absurd hp (by simp)⟩
theorem jf6 {m:Jl} {i:Nat} {p:Xq} (h:V9 m) (hp:jc7 p):V9 { m with Rz:=m.Rz.set i p} :=fun j hj=>by
 simp only[List.length_set] at hj;show jc7 (m.Rz.set i p)[j];rw[List.getElem_set];split
 ·exact hp
 ·exact h j hj
theorem jf5 {p:Xq} {i:Nat} {x:Ref} (h:jc7 p) (hx:jey x):jc7 { p with Fz:=p.Fz.set i x} :=⟨h.Uz,by simpa using h.few,fun j hj=>by
 simp only[List.length_set] at hj;show jey (p.Fz.set i x)[j];rw[List.getElem_set];split
 ·exact hx
 ·exact h.Fz j hj⟩
theorem jk2 {x:Ref} {i:Nat} {l:List File} (h:jey x) (hl:Vk l):jey { x with Vz:=x.Vz.set i l} :=⟨h.name,fun j hj=>by
 simp only[List.length_set] at hj;show Vk (x.Vz.set i l)[j];rw[List.getElem_set];split
 ·exact hl
 ·exact h.Vz j hj⟩
theorem jp1 {w w1:World} {g H x:Nat} {t:TypeId} {l:List Int} (hb:Blk w H t (jjy l)) (ho:Only [g] w w1) (hg:H≠g) (hx:x<l.length): ∃z∈l,w1.cell? ⟨H,x,none⟩=some (.int .i64 z):=
 ⟨l[x],List.getElem_mem hx,((hb.only ho (by simpa using hg)).cell x).trans (by simp[jjy,hx])⟩
def FICellL (g:Nat) (l:List Int) (v:Value) (w:World):Prop:=∃b x z,v= .pointer (some ⟨b,x,none⟩)∧b≠g∧b<w.heap.size∧z∈l∧w.cell? ⟨b,x,none⟩=some (.int .i64 z)
theorem FICellL.only {g:Nat} {l:List Int} {v:Value} {w w':World} (h:FICellL g l v w) (ho:Only [g] w w'):FICellL g l v w':=by
 obtain⟨b,x,z,h1,h2,h3,h4,h5⟩:=h;refine⟨b,x,z,h1,h2,Nat.lt_of_lt_of_le h3 ho.size,h4, ?_⟩;rw[World.cell?_of_block (a:=⟨b,x,none⟩) (ho.block b h3 (by simpa using h2))];exact h5
def jjx (l:List Int) (v:Value):Prop:=∃z∈l,v= .int .i64 z
def FRul (H:Nat) (v:Value) (w:World):Prop:=∃l:List Yt,w.ownsRow H 29 4 v l.length (l.flatMap Jh)∧Ym l
theorem FRul.only {g H:Nat} {v:Value} {w w':World} (h:FRul H v w) (ho:Only [g] w w') (hg:g<H):FRul H v w':=by
 obtain⟨l,h1,h2⟩:=h;exact⟨l,Vj h1 ho hg,h2⟩
def FFil (H:Nat) (v:Value) (w:World):Prop:=∃l:List File,w.ownsRow H 65 2 v l.length (l.flatMap Jj)∧Xh l
theorem FFil.only {g H:Nat} {v:Value} {w w':World} (h:FFil H v w) (ho:Only [g] w w') (hg:g<H):FFil H v w':=by
 obtain⟨l,h1,h2⟩:=h;exact⟨l,Vj h1 ho hg,h2⟩
def jqg (g M:Nat) (b o n c:Nat):Xr:=fun s v w=>match s with
 | 0=>Z8 g v
 | 3=>Z8 M v
 | 51=>v= .pointer (some ⟨M,0,none⟩)
 | 52=>v= .slice (some ⟨b,o,none⟩) n c
 | 53=>FInts g [0,10000] v w
 | 54=>Z8 g v
 | 55=>jcn 2 v
 | 56=>FICellL g [0,10000] v w
 | 57=>jjx [0,10000] v
 | 58=>v= .pointer (some ⟨b,o,none⟩)
 |_=>True
theorem jlm (g M b o n c:Nat):Zx (Only [g]) (jqg g M b o n c):=fun s v w w' h ho=>by
 unfold jqg at*;split at h<;>first|exact h|exact FInts.only h ho|exact FICellL.only h ho
def jqf (g M:Nat) (b o n c:Nat):Xr:=fun s v w=>match s with
 | 0=>Z8 g v
 | 3=>Z8 M v
 | 61=>v= .pointer (some ⟨M,1,none⟩)
 | 62=>v= .slice (some ⟨b,o,none⟩) n c
 | 63=>FInts g [-1,200,201] v w
 | 64=>Z8 g v
 | 65=>jcn 3 v
 | 66=>FICellL g [-1,200,201] v w
 | 67=>jjx [-1,200,201] v
 | 68=>v= .pointer (some ⟨b,o,none⟩)
 |_=>True
theorem jll (g M b o n c:Nat):Zx (Only [g]) (jqf g M b o n c):=fun s v w w' h ho=>by
 unfold jqf at*;split at h<;>first|exact h|exact FInts.only h ho|exact FICellL.only h ho
def jqe (g M:Nat) (b o n c kk:Nat):Xr:=fun s v w=>match s with
 | 0=>Z8 g v
 | 3=>Z8 M v
 | 5=>v= .int .i64 (kk:Int)
 | 71=>v= .pointer (some ⟨M,2,none⟩)
 | 72=>v= .slice (some ⟨b,o,none⟩) n c
 | 73=>v= .int .i64 (kk:Int)
 | 74=>FInts g [0,4] v w
 | 75=>Z8 g v
 | 76=>jcn 2 v
 | 77=>FICellL g [0,4] v w
 | 78=>jjx [0,4] v
 | 79=>v= .pointer (some ⟨b,o+kk*3,none⟩)
 | 80=>v= .pointer (some ⟨b,o+kk*3,none⟩)
 |_=>True
theorem jlk (g M b o n c kk:Nat):Zx (Only [g]) (jqe g M b o n c kk):=fun s v w w' h ho=>by
 unfold jqe at*;split at h<;>first|exact h|exact FInts.only h ho|exact FICellL.only h ho
def jqd (g M:Nat) (H b o n c kk:Nat):Xr:=fun s v w=>match s with
 | 0=>Z8 g v
 | 3=>Z8 M v
 | 5=>v= .int .i64 (kk:Int)
 | 83=>v= .pointer (some ⟨M,2,none⟩)
 | 84=>v= .slice (some ⟨b,o,none⟩) n c
 | 85=>v= .int .i64 (kk:Int)
 | 86=>Z8 g v
 | 87=>FRul H v w
 | 88=>v= .pointer (some ⟨b,o+kk*3,none⟩)
 | 89=>v= .pointer (some ⟨b,o+kk*3+1,none⟩)
 |_=>True
theorem jlj (g M H b o n c kk:Nat) (hH:g<H):Zx (Only [g]) (jqd g M H b o n c kk):=fun s v w w' h ho=>by
 unfold jqd at*;split at h<;>first|exact h|exact FInts.only h ho|exact FICellL.only h ho|exact FRul.only h ho hH|exact FFil.only h ho hH
def jqc (g M:Nat) (b o n c kk b2 o2 n2 c2:Nat):Xr:=fun s v w=>match s with
 | 0=>Z8 g v
 | 3=>Z8 M v
 | 5=>v= .int .i64 (kk:Int)
 | 107=>v= .pointer (some ⟨M,2,none⟩)
 | 108=>v= .slice (some ⟨b,o,none⟩) n c
 | 109=>v= .int .i64 (kk:Int)
 | 110=>v= .pointer (some ⟨b,o+kk*3,none⟩)
 | 111=>v= .pointer (some ⟨b,o+kk*3+2,none⟩)
 | 112=>v= .slice (some ⟨b2,o2,none⟩) n2 c2
 | 113=>FInts g [-1,14,15] v w
 | 114=>Z8 g v
 | 115=>jcn 3 v
 | 116=>FICellL g [-1,14,15] v w
 | 117=>jjx [-1,14,15] v
 | 118=>v= .pointer (some ⟨b2,o2,none⟩)
 | 119=>v= .pointer (some ⟨b2,o2+2,none⟩)
 |_=>True
theorem jli (g M b o n c kk b2 o2 n2 c2:Nat):Zx (Only [g]) (jqc g M b o n c kk b2 o2 n2 c2):=fun s v w w' h ho=>by
 unfold jqc at*;split at h<;>first|exact h|exact FInts.only h ho|exact FICellL.only h ho
def jqb (g M:Nat) (H b o n c kk b2 o2 n2 c2 b3 o3 n3 c3:Nat):Xr:=fun s v w=>match s with
 | 0=>Z8 g v
 | 3=>Z8 M v
 | 5=>v= .int .i64 (kk:Int)
 | 130=>v= .pointer (some ⟨M,2,none⟩)
 | 131=>v= .slice (some ⟨b,o,none⟩) n c
 | 132=>v= .int .i64 (kk:Int)
 | 133=>v= .pointer (some ⟨b,o+kk*3,none⟩)
 | 134=>v= .pointer (some ⟨b,o+kk*3+2,none⟩)
 | 135=>v= .slice (some ⟨b2,o2,none⟩) n2 c2
 | 136=>v= .pointer (some ⟨b2,o2,none⟩)
 | 137=>v= .pointer (some ⟨b2,o2+3,none⟩)
 | 138=>v= .slice (some ⟨b3,o3,none⟩) n3 c3
 | 139=>Z8 g v
 | 140=>FFil H v w
 | 141=>v= .pointer (some ⟨b3,o3,none⟩)
 |_=>True
theorem jlh (g M H b o n c kk b2 o2 n2 c2 b3 o3 n3 c3:Nat) (hH:g<H):Zx (Only [g]) (jqb g M H b o n c kk b2 o2 n2 c2 b3 o3 n3 c3):=fun s v w w' h ho=>by
 unfold jqb at*;split at h<;>first|exact h|exact FInts.only h ho|exact FICellL.only h ho|exact FRul.only h ho hH|exact FFil.only h ho hH
def FRow4 (gr:Nat) (cs:Array Value) (v:Value) (w:World):Prop:=∃b,v= .slice (some ⟨b,0,none⟩) 1 1∧b≠gr∧Blk w b 52 cs
theorem joy:(Tryz.prog.info? 52).map (fun i=>(i.zero,i.size,i.bytes))=some (some (.agg #[.string ByteArray.empty,.bool false,.int .i64 0,.slice none 0 0]),4,56):=by kernel_rfl
def jqa (M b gr kk n d nr kr:Nat) (cx:Array Value):Xr:=fun s v w=>match s with
 | 3=>Z8 M v
 | 5=>v= .int .i64 (kk:Int)
 | 28=>v= .pointer (some ⟨M,2,none⟩)
 | 29=>v= .slice (some ⟨b,0,none⟩) n d
 | 30=>v= .int .i64 (kk:Int)
 | 31=>v= .pointer (some ⟨M,2,none⟩)
 | 32=>v= .slice (some ⟨b,0,none⟩) n d
 | 33=>v= .int .i64 (kk:Int)
 | 34=>v= .pointer (some ⟨b,kk*3,none⟩)
 | 35=>v= .pointer (some ⟨b,kk*3+2,none⟩)
 | 36=>v= .slice (some ⟨gr,0,none⟩) nr kr
 | 37=>v= .pointer (some ⟨M,2,none⟩)
 | 38=>v= .slice (some ⟨b,0,none⟩) n d
 | 39=>v= .int .i64 (kk:Int)
 | 40=>v= .pointer (some ⟨b,kk*3,none⟩)
 | 41=>v= .pointer (some ⟨b,kk*3+2,none⟩)
 | 42=>v= .slice (some ⟨gr,0,none⟩) nr kr
 | 43=>v= .pointer (some ⟨gr,0,none⟩)
 | 44=>v= .agg cx
 | 45=>FRow4 gr cx v w
 | 47=>v= .pointer (some ⟨b,kk*3,none⟩)
 | 48=>v= .pointer (some ⟨b,kk*3+2,none⟩)
 |_=>True
theorem jlg (M b gr kk n d nr kr:Nat) (cx:Array Value):Zx (Only [gr]) (jqa M b gr kk n d nr kr cx):=fun s v w w' h ho=>by
 unfold jqa at*;split at h<;>first|exact h|(obtain⟨b',h1,h2,h3⟩:=h;exact⟨b',h1,h2,h3.only ho (by simpa using h2)⟩)
theorem jpx {w:World} {b B size n cap:Nat} {e:TypeId} {g:Nat} {xs:List Value} (h:w.ownsRow b e size (.slice (some ⟨g,0,none⟩) n cap) n xs) (hB:B≤g):w.ownsRow B e size (.slice (some ⟨g,0,none⟩) n cap) n xs:=
 ⟨h.1,h.2.elim (fun k=>by cases k.1) fun⟨k,c,cur,hv,_,r⟩=> .inr ⟨k,c,cur,hv,by cases hv;exact hB,r⟩⟩
theorem jok {p:Xq} {u:Int} (h0:0<p.Fz.length) (h:repoOk u { p with Fz:=p.Fz++ [p.Fz[0]]} =true):False:=by
 have h1:=(Yj.1 h).2.2.1;obtain⟨-, -,h3⟩:=List.pairwise_append.1 h1;have h4:=h3 _ (List.getElem_mem h0) _ (List.mem_singleton.2 rfl);rw[jeg] at h4;cases h4
structure RqT (deps:List (Nat×Nat)) (st t gr:Nat) (w0:World) (Ap:Value→World→Prop) (L:Array Bool) (τ:Tmp→Value) (w:World):Prop where
 cl:Cls deps L
 on:Only [gr] w0 w
 be:L.getD st false=false→Below w0.heap.size w0 w
 af:L.getD st false=true→Ap (τ t) w
section
variable {deps:List (Nat×Nat)} {st t gr m:Nat} {w0 w w':World} {Ap:Value→World→Prop} {L:Array Bool} {τ:Tmp→Value} {u:Value}
theorem RqT.start {n:Nat} :RqT deps st t gr w0 Ap (Array.replicate n false) τ w0.drew where
 cl:=Cls.start
 on:=Only.of_below ((Below.refl _ _).drew) _
 be:=fun _=>(Below.refl _ _).drew
 af:=fun h=>by simp[Array.getD] at h
theorem RqT.pure (h:RqT deps st t gr w0 Ap L τ w) {d:Nat} (hm:m≠st) (hd:t≠d) (hc: ∀p∈deps,p.1=m→L.getD p.2 false=true):RqT deps st t gr w0 Ap (L.setIfInBounds m true) (jaf τ (some d) u) w where
 cl:=h.cl.set hc
 on:=h.on
 be:=fun ha=>h.be (by rwa [getD_set_ne false hm] at ha)
 af:=fun ha=>by
  rw[show jaf τ (some d) u t=τ t by simp[jaf,hd]];exact h.af (by rwa [getD_set_ne false hm] at ha)
theorem RqT.turn (h:RqT deps st t gr w0 Ap L τ w) {o:Option Tmp} (hm:m≠st) (ha:L.getD st false=false) (hc: ∀p∈deps,p.1=m→L.getD p.2 false=true) (ho:Only [gr] w w') (hb:Below w0.heap.size w0 w'):RqT deps st t gr w0 Ap (L.setIfInBounds m true) (jaf τ o u) w' where
 cl:=h.cl.set hc
 on:=h.on.trans ho
 be:=fun _=>hb
 af:=fun hb=>by
  rw[getD_set_ne false hm,ha] at hb;cases hb
theorem RqT.hit (h:RqT deps st t gr w0 Ap L τ w) (_:L.getD st false=false) (hL:st<L.size) (hc: ∀p∈deps,p.1=st→L.getD p.2 false=true) (ho:Only [gr] w w') (hA:Ap u w'):RqT deps st t gr w0 Ap (L.setIfInBounds st true) (jaf τ (some t) u) w' where
 cl:=h.cl.set hc
 on:=h.on.trans ho
 be:=fun hb=>by
  rw[show(L.setIfInBounds st true).getD st false=true by simp[hL]] at hb;cases hb
 af:=fun _=>by
  rw[show jaf τ (some t) u t=u by simp[jaf]];exact hA
end
def DrBad (g P:Nat) (w:World) (e:Ending) (w':World):Prop:=
 ∃x cs f,e= .returned (.agg (List.toArray cs))∧Rp.house.R w' cs x f∧(∀z∈f,w.heap.size≤z)∧V9 x∧(Ys x=true→(∀k∈x.keys,10≤k)∧(jc0 x∨f.Nodup∧Free w' f))∧Rd w' g P∧Only [g] w w'
theorem jp2 {keys:List Int} {z:Int} (hk: ∀k∈keys,10≤k) (hz:z∈ [0,10000]) {used:List Int} {Rz:List Xq} (h0:0<keys.length) (h:Ys ⟨keys.set 0 z,used,Rz⟩=true): ∀k∈keys.set 0 z,10≤k:=by
 have h1:=(J8.1 (Jo.1 h).1).2.2.1;intro k hk';have h2:=h1 k hk';rcases List.mem_or_eq_of_mem_set hk' with h3|h3
 ·exact hk k h3
 ·subst h3;simp only[List.mem_cons,List.not_mem_nil,or_false] at hz;omega
theorem jfs {cs:List Value} {m:Jl} {fm:List Nat} (g P:Nat) (hP:P+10000≤1000000) (w:World) (h:Rd w g P) (hR:Rp.house.R w cs m fm) (hi:MInv m):
  Calls Tryz.prog 33 #[.pointer (some ⟨g,0,none⟩),.agg cs.toArray] w (DrBad g (P+10000) w):=by
 have hg:=h.lt;obtain⟨A0,n0,c0,f0,A1,n1,c1,f1,A2,n2,c2,f2,rfl, -⟩:=id hR;have km:=Blk.new w 26 #[.slice A0 n0 c0,.slice A1 n1 c1,.slice A2 n2 c2];have kr:=Blk.new (w.alloc (.cells #[.slice A0 n0 c0,.slice A1 n1 c1,.slice A2 n2 c2] 26)) 26 H0;have b0:=((Below.refl w.heap.size w).alloc nle (.cells #[.slice A0 n0 c0,.slice A1 n1 c1,.slice A2 n2 c2] 26)).alloc (by simp) (.cells H0 26)
 replace km:=km.step ((Below.refl _ _).alloc nle (.cells H0 26));have hR1:=Rp.house.below hR b0 nle;have r1:=h.step b0;have hsz:((w.alloc (.cells #[.slice A0 n0 c0,.slice A1 n1 c1,.slice A2 n2 c2] 26)).alloc (.cells H0 26)).heap.size=w.heap.size+2:=by simp
 have hsz1:(w.alloc (.cells #[.slice A0 n0 c0,.slice A1 n1 c1,.slice A2 n2 c2] 26)).heap.size=w.heap.size+1:=by simp
 go_enter Tryz.func33,Tryz.ntmps33;go_upto_region 1 with fail
 generalize hw1:(w.alloc (.cells #[.slice A0 n0 c0,.slice A1 n1 c1,.slice A2 n2 c2] 26)).alloc (.cells H0 26)=w1 at km kr b0 hR1 r1 hsz ⊢;rw[hsz1] at kr;clear hw1 hsz1 h hR;have x0:=km.cell 0;have x1:=km.cell 1;have x2:=km.cell 2;simp only[List.getElem?_toArray,List.getElem?_cons_zero,List.getElem?_cons_succ] at x0 x1 x2;have HR1:=Ja hR1;clear hR1;go_wp2_with fail
 refine(jfr (x:=m) _ HR1.out hi.small).mono ?_;rintro e w2 ⟨B0,d0,B1,d1,vR,f,fw,rfl,hR2,hn,hl,hf,hU,hlw,hb⟩;obtain⟨B2,d2,rfl⟩: ∃B2 d2,vR= .slice B2 m.Rz.length d2:=by
  obtain⟨A0,n0,c0,f0,A1,n1,c1,f1,v,f2,he, -, -, -,h2⟩:=id hR2;obtain⟨A,c,fs,hv, -⟩:=h2.sl;cases he;exact⟨A,c,hv⟩
 have H:BB w g P m (.slice B0 m.keys.length d0) (.slice B1 m.used.length d1) (.slice B2 m.Rz.length d2) f fw (((w2.setCell ⟨w.heap.size,0,none⟩ (.slice B0 m.keys.length d0)).setCell ⟨w.heap.size,1,none⟩ (.slice B1 m.used.length d1)).setCell ⟨w.heap.size,2,none⟩ (.slice B2 m.Rz.length d2)):=by
  have hO:Only [w.heap.size] w2 (((w2.setCell ⟨w.heap.size,0,none⟩ (.slice B0 m.keys.length d0)).setCell ⟨w.heap.size,1,none⟩ (.slice B1 m.used.length d1)).setCell ⟨w.heap.size,2,none⟩ (.slice B2 m.Rz.length d2)):=(((Only.refl [w.heap.size] w2).setCell (p:=⟨w.heap.size,0,none⟩) (.inl (by simp)) (.slice B0 m.keys.length d0)).setCell (p:=⟨w.heap.size,1,none⟩) (.inl (by simp)) (.slice B1 m.used.length d1)).setCell (p:=⟨w.heap.size,2,none⟩) (.inl (by simp)) (.slice B2 m.Rz.length d2)
  have hlo: ∀z∈f,w.heap.size+1<z:=fun z hz=>by have:=hl z hz;omega
  have hlo2: ∀z∈fw,w.heap.size+1<z:=fun z hz=>by have:=hlw z hz;omega
  have hk: ∀z∈f,(((w2.setCell ⟨w.heap.size,0,none⟩ (.slice B0 m.keys.length d0)).setCell ⟨w.heap.size,1,none⟩ (.slice B1 m.used.length d1)).setCell ⟨w.heap.size,2,none⟩ (.slice B2 m.Rz.length d2)).heap[z]? =w2.heap[z]? :=fun z hz=>hO.block z (Rp.houseO.lt hR2 z hz) (by have:=hlo z hz;simp;omega)
  have hk2: ∀z∈fw,(((w2.setCell ⟨w.heap.size,0,none⟩ (.slice B0 m.keys.length d0)).setCell ⟨w.heap.size,1,none⟩ (.slice B1 m.used.length d1)).setCell ⟨w.heap.size,2,none⟩ (.slice B2 m.Rz.length d2)).heap[z]? =w2.heap[z]? :=fun z hz=>hO.block z (hU.lt z hz) (by have:=hlo2 z hz;simp;omega)
  have j0:Blk _ w.heap.size 26 #[.slice B0 m.keys.length d0,.slice A1 n1 c1,.slice A2 n2 c2]:=Jd (i:=0) (km.step hb) (.slice B0 m.keys.length d0);have j1:Blk _ w.heap.size 26 #[.slice B0 m.keys.length d0,.slice B1 m.used.length d1,.slice A2 n2 c2]:=Jd (i:=1) j0 (.slice B1 m.used.length d1)
  exact⟨(r1.step hb).only (f:=[w.heap.size]) hO (by simp;omega),(Only.of_below (b0.trans (hb.mono b0.size)) [g]).trans_new hO nle,Jd (i:=2) j1 (.slice B2 m.Rz.length d2),(kr.step hb).only hO (by simp),Rp.houseO.keep hR2 hk,hU.keep hk2,hlo,hlo2,⟨hn,hf.keep hk⟩,hg⟩
 have x0:=Blk.c0 (km.step hb);have x1:=Blk.c1 (km.step hb);have x2:=Blk.c2 (km.step hb);have y0:=Ji (km.step hb) 0;have y1:=Ji (km.step hb) 1;have y2:=Ji (km.step hb) 2;clear hR2 hn hl hf HR1 km kr b0 r1 hsz hb hU hlw;go_upto_region 2 with fail
 generalize(((w2.setCell ⟨w.heap.size,0,none⟩ (.slice B0 m.keys.length d0)).setCell ⟨w.heap.size,1,none⟩ (.slice B1 m.used.length d1)).setCell ⟨w.heap.size,2,none⟩ (.slice B2 m.Rz.length d2))=w3 at H ⊢;clear x0 x1 x2 y0 y1 y2;have hmx2:m.Rz.length≤maxLen∧d2≤maxLen:=by
  obtain⟨A0,n0,c0,f0,A1,n1,c1,f1,v,f2,he, -, -, -,h2⟩:=id H.RO;obtain⟨A,c,fs,hv, -, -,k1,k2⟩:=h2.sl;cases he;cases hv;exact⟨Nat.le_trans k1 k2,k2⟩
 have x2:=Blk.c2 H.km;by_cases hz:m.Rz.length=0
 ·have hz1:((m.Rz.length:Int)==0)=true:=by simp[hz]
  have hb:=H.same hi;go_upto_region 3 with fail
  clear x2 hz1 H;obtain⟨a0,k0,e0,a1,k1,e1,a2,k2,e2,km,kr,HF⟩:=hb.fin hg;have x0:=Blk.c0 km;have x1:=Blk.c1 km;have x2:=Blk.c2 km;have z0:=Blk.c0 kr;have z1:=Blk.c1 kr;have z2:=Blk.c2 kr;have y0:=Ji kr 0;have y1:=Ji kr 1;have y2:=Ji kr 2;have HX:=Ja HF;clear HF km kr hb;go_wp2;obtain⟨k2,x,f,hR,hl,hf,hk,hr,hon⟩:=HX.out
  exact bodyPost_ret (v:= .agg #[.slice a0 k0 e0,.slice a1 k1 e1,.slice a2 _ e2]) (results_cell_row rfl _ _ (w.heap.size+1) _ _ (0,0) _ rfl k2.out Tryz.underlying26 rfl jd6) rfl ⟨x,_,f,rfl,hR,hl,hf,hk,hr.mono (by omega),hon⟩
 ·have hz1:((m.Rz.length:Int)==0)=false:=beq_eq_false_iff_ne.2 (by omega);have hm:Ys m=true∧∀k∈m.keys,10≤k:=by
   rcases hi with hi|hi
   ·exact hi
   ·subst hi;exact absurd rfl hz
  go_wp2_with fail;refine(Jk g P (m.Rz.length:Int) (by omega) (by have:=(Jo.1 hm.1).2.1;omega) _ H.rd).mono ?_;rintro e w4 ⟨kk,rfl,hkk,hr,ho⟩;replace H:=H.only ho hr;have hk:kk<m.Rz.length:=by omega
  clear hr ho hkk hz1 x2;go_wp2_with fail;refine(Jk g _ 8 (by omega) (by omega) _ H.rd).mono ?_;rintro e w3 ⟨sel,rfl, -,hr,ho⟩;replace H:=H.only ho hr;clear hr ho;generalize(sel:Int)=kd
  go_upto_block 0 with fail
  go_cut [] from 20 to 141 (fun wx=>BadR w g (P+8000) wx)
  case first=>
   by_cases e0:kd=0
   ·subst e0;have hk0:0<m.keys.length:=by have:=(J8.1 (Jo.1 hm.1).1);omega
    have hp0:(0:Int)<(m.keys.length:Int):=by omega
    obtain⟨fp,hRp,hnp,hfp,hlp,hsp⟩:=H.plain;obtain⟨b,o,c0,a1,n1,c1,a2,n2,c2,he,hcm, -, -⟩:=jg0 hRp hnp hfp hk0;cases he;clear hRp hnp hfp hlp hsp;go_upto_region 9 with fail
    refine Jt 8 _ rfl (fun k w'=>Rd w' g (P+10+1*k)∧Only [g] w3 w') (Only [g]) (jqg g w.heap.size b o m.keys.length d0) (by kernel_rfl) rfl (by kernel_rfl) rfl (jlm _ _ _ _ _ _) (Only.refl _) ⟨⟨((H.mono (show _≤P+10 by omega)).rd.step (Below.refl _ _).drew).mono (by omega),Only.of_below ((Below.refl _ _).drew) _⟩,fun s hs=> ?_,by rfl⟩ ?_ ?_
    ·skip;by_cases e0:s=0
     ·subst e0;rfl
     by_cases e3:s=3
     ·subst e3;rfl
     have hne:s∉ [51,52,53,54,55,56,57,58]:=fun hm=>by
      simp only[List.mem_cons,List.not_mem_nil,or_false] at hm;rcases hm with rfl|rfl|rfl|rfl|rfl|rfl|rfl|rfl<;>exact absurd hs (by decide)
     simp only[List.mem_cons,List.not_mem_nil,or_false,not_or] at hne;unfold jqg;split<;>first|trivial|(exfalso;omega)
    ·intro p hp;simp only[List.take_succ_cons,List.take_zero,List.mem_cons,List.not_mem_nil,or_false] at hp;rcases hp with rfl|rfl|rfl|rfl|rfl|rfl|rfl|rfl
     ·intro k a w' hk hC hR;have r3:_=_:=hR 3 (by decide);simp[Region.wanted,Jg,go_sem,execOp,r3,upT];exact⟨⟨hC.1.mono (by omega),hC.2⟩,Only.refl _ _,rfl⟩
     ·intro k a w' hk hC hR;have r51:_=_:=hR 51 (by decide);have hc:=Blk.c0 (H.km.only hC.2 (by have:=H.gl;simp;omega));simp[Region.wanted,Jg,go_sem,execOp,r51,hc,upT];exact⟨⟨hC.1.mono (by omega),hC.2⟩,Only.refl _ _,rfl⟩
     ·intro k a w' hk hC hR;simp[Region.wanted,Jg,go_sem,execOp,upT];have hg':=hC.1.lt;exact⟨⟨(hC.1.step ((Below.refl _ _).alloc nle _)).mono (by omega),hC.2.alloc _⟩,(Only.refl _ _).alloc _,⟨_,rfl,by omega,Blk.new _ _ _⟩⟩
     ·intro k a w' hk hC hR;have r0:_=_:=hR 0 (by decide);simp[Region.wanted,Jg,go_sem,execOp,r0,upT];exact⟨⟨hC.1.mono (by omega),hC.2⟩,Only.refl _ _,rfl⟩
     ·intro k a w' hk hC hR;have r54:_=_:=hR 54 (by decide);simp[Region.wanted,Jg,go_sem,execOp,r54,upT];have hk':k<40:=Nat.lt_of_lt_of_le hk (by decide);refine(Jk g _ 2 (by omega) (by omega) _ hC.1).mono ?_;rintro e w1 ⟨x,rfl,hx,hr,ho⟩;exact⟨_,rfl,⟨hr.mono (by omega),hC.2.trans ho⟩,ho,⟨x,rfl,by omega⟩⟩
     ·intro k a w' hk hC hR;obtain⟨b,r53,hb,hB⟩:FInts g _ _ _:=hR 53 (by decide);obtain⟨x,r55,hx⟩:jcn 2 _:=hR 55 (by decide);have x0:(x:Int)<2:=by omega
      simp[Region.wanted,Jg,go_sem,execOp,r53,r55,↓IntWalk.iteOmega,x0,upT];obtain⟨z,hz,hzc⟩:=jp1 (x:=x) hB (Only.refl [g] _) hb (by simpa using hx);exact⟨⟨hC.1.mono (by omega),hC.2⟩,Only.refl _ _,⟨b,x,z,rfl,hb,hB.lt,hz,hzc⟩⟩
     ·intro k a w' hk hC hR;obtain⟨b,x,z,r56,hb,hlt,hz,hc⟩:FICellL g _ _ _:=hR 56 (by decide);simp[Region.wanted,Jg,go_sem,execOp,r56,hc,upT];exact⟨⟨hC.1.mono (by omega),hC.2⟩,Only.refl _ _,⟨z,hz,rfl⟩⟩
     ·intro k a w' hk hC hR;have r52:_=_:=hR 52 (by decide);simp[Region.wanted,Jg,go_sem,execOp,r52,↓IntWalk.iteOmega,hp0,upT];exact⟨⟨hC.1.mono (by omega),hC.2⟩,Only.refl _ _,rfl⟩
    ·rintro w5 ⟨hr5,ho5⟩;simp only[List.take_succ_cons,List.take_zero,jdb];intro v51 _ v52 _ v53 _ v54 _ v55 _ v56 _ v57 h57 v58 h58;have H5:=H.only ho5 hr5;obtain⟨z,hz,rfl⟩:jjx _ v57:=h57;obtain rfl:v58= .pointer (some ⟨b,o,none⟩):=h58;obtain⟨fp,hRp,hnp,hfp,hlp,hsp⟩:=H5.plain;obtain⟨b',o',c0,a1,n1,c1,a2,n2,c2,he, -,hbm,hst⟩:=jg0 hRp hnp hfp hk0;cases he;obtain⟨v0,q0,y0,hR0,hF0⟩:=hst z
     simp only[Nat.add_zero] at q0 y0 hR0 hF0;have HB:=Ja (H5.bad (hlp _ hbm) hR0 hlp (fun i hi=>Jv hm.1 i hi) (fun hk=>⟨jp2 hm.2 hz hk0 hk,.inr ⟨hnp,hF0⟩⟩));clear hR0 hF0 hst H5 H hRp hnp hfp hlp hsp;go_wp2_with fail;go_meet
     case rel=>exact HB.out.mono (by omega)
   have n0:(kd==(0:Int))=false:=beq_eq_false_iff_ne.2 e0;clear e0;by_cases e1:kd=1
   ·subst e1;have hk0:0<m.used.length:=by have:=(J8.1 (Jo.1 hm.1).1);omega
    have hp0:(0:Int)<(m.used.length:Int):=by omega
    obtain⟨fp,hRp,hnp,hfp,hlp,hsp⟩:=H.plain;obtain⟨a0,n0,c0,b,o,c1,a2,n2,c2,he,hcm, -, -⟩:=jgz hRp hnp hfp hk0;cases he;clear hRp hnp hfp hlp hsp;go_upto_region 11 with fail
    refine Jt 8 _ rfl (fun k w'=>Rd w' g (P+10+1*k)∧Only [g] w3 w') (Only [g]) (jqf g w.heap.size b o m.used.length d1) (by kernel_rfl) rfl (by kernel_rfl) rfl (jll _ _ _ _ _ _) (Only.refl _) ⟨⟨((H.mono (show _≤P+10 by omega)).rd.step (Below.refl _ _).drew).mono (by omega),Only.of_below ((Below.refl _ _).drew) _⟩,fun s hs=> ?_,by rfl⟩ ?_ ?_
    ·skip;by_cases e0:s=0
     ·subst e0;rfl
     by_cases e3:s=3
     ·subst e3;rfl
     have hne:s∉ [61,62,63,64,65,66,67,68]:=fun hm=>by
      simp only[List.mem_cons,List.not_mem_nil,or_false] at hm;rcases hm with rfl|rfl|rfl|rfl|rfl|rfl|rfl|rfl<;>exact absurd hs (by decide)
     simp only[List.mem_cons,List.not_mem_nil,or_false,not_or] at hne;unfold jqf;split<;>first|trivial|(exfalso;omega)
    ·intro p hp;simp only[List.take_succ_cons,List.take_zero,List.mem_cons,List.not_mem_nil,or_false] at hp;rcases hp with rfl|rfl|rfl|rfl|rfl|rfl|rfl|rfl
     ·intro k a w' hk hC hR;have r3:_=_:=hR 3 (by decide);simp[Region.wanted,Jg,go_sem,execOp,r3,upT];exact⟨⟨hC.1.mono (by omega),hC.2⟩,Only.refl _ _,rfl⟩
     ·intro k a w' hk hC hR;have r61:_=_:=hR 61 (by decide);have hc:=Blk.c1 (H.km.only hC.2 (by have:=H.gl;simp;omega));simp[Region.wanted,Jg,go_sem,execOp,r61,hc,upT];exact⟨⟨hC.1.mono (by omega),hC.2⟩,Only.refl _ _,rfl⟩
     ·intro k a w' hk hC hR;simp[Region.wanted,Jg,go_sem,execOp,upT];have hg':=hC.1.lt;exact⟨⟨(hC.1.step ((Below.refl _ _).alloc nle _)).mono (by omega),hC.2.alloc _⟩,(Only.refl _ _).alloc _,⟨_,rfl,by omega,Blk.new _ _ _⟩⟩
     ·intro k a w' hk hC hR;have r0:_=_:=hR 0 (by decide);simp[Region.wanted,Jg,go_sem,execOp,r0,upT];exact⟨⟨hC.1.mono (by omega),hC.2⟩,Only.refl _ _,rfl⟩
     ·intro k a w' hk hC hR;have r64:_=_:=hR 64 (by decide);simp[Region.wanted,Jg,go_sem,execOp,r64,upT];have hk':k<40:=Nat.lt_of_lt_of_le hk (by decide);refine(Jk g _ 3 (by omega) (by omega) _ hC.1).mono ?_;rintro e w1 ⟨x,rfl,hx,hr,ho⟩;exact⟨_,rfl,⟨hr.mono (by omega),hC.2.trans ho⟩,ho,⟨x,rfl,by omega⟩⟩
     ·intro k a w' hk hC hR;obtain⟨b,r63,hb,hB⟩:FInts g _ _ _:=hR 63 (by decide);obtain⟨x,r65,hx⟩:jcn 3 _:=hR 65 (by decide);have x0:(x:Int)<3:=by omega
      simp[Region.wanted,Jg,go_sem,execOp,r63,r65,↓IntWalk.iteOmega,x0,upT];obtain⟨z,hz,hzc⟩:=jp1 (x:=x) hB (Only.refl [g] _) hb (by simpa using hx);exact⟨⟨hC.1.mono (by omega),hC.2⟩,Only.refl _ _,⟨b,x,z,rfl,hb,hB.lt,hz,hzc⟩⟩
     ·intro k a w' hk hC hR;obtain⟨b,x,z,r66,hb,hlt,hz,hc⟩:FICellL g _ _ _:=hR 66 (by decide);simp[Region.wanted,Jg,go_sem,execOp,r66,hc,upT];exact⟨⟨hC.1.mono (by omega),hC.2⟩,Only.refl _ _,⟨z,hz,rfl⟩⟩
     ·intro k a w' hk hC hR;have r62:_=_:=hR 62 (by decide);simp[Region.wanted,Jg,go_sem,execOp,r62,↓IntWalk.iteOmega,hp0,upT];exact⟨⟨hC.1.mono (by omega),hC.2⟩,Only.refl _ _,rfl⟩
    ·rintro w5 ⟨hr5,ho5⟩;simp only[List.take_succ_cons,List.take_zero,jdb];intro v61 _ v62 _ v63 _ v64 _ v65 _ v66 _ v67 h67 v68 h68;have H5:=H.only ho5 hr5;obtain⟨z,hz,rfl⟩:jjx _ v67:=h67;obtain rfl:v68= .pointer (some ⟨b,o,none⟩):=h68;obtain⟨fp,hRp,hnp,hfp,hlp,hsp⟩:=H5.plain;obtain⟨a0,n0,c0,b',o',c1,a2,n2,c2,he, -,hbm,hst⟩:=jgz hRp hnp hfp hk0;cases he;obtain⟨v0,q0,y0,hR0,hF0⟩:=hst z
     simp only[Nat.add_zero] at q0 y0 hR0 hF0;have HB:=Ja (H5.bad (hlp _ hbm) hR0 hlp (fun i hi=>Jv hm.1 i hi) (fun hk=>⟨hm.2,.inr ⟨hnp,hF0⟩⟩));clear hR0 hF0 hst H5 H hRp hnp hfp hlp hsp;go_wp2_with fail;go_meet
     case rel=>exact HB.out.mono (by omega)
   have n1:(kd==(1:Int))=false:=beq_eq_false_iff_ne.2 e1;clear e1;have k0:(0:Int)≤(kk:Int):=by omega
   have k1:(kk:Int)<(m.Rz.length:Int):=by omega
   have hgH:g<w3.heap.size:=by have:=H.kr.lt;omega
   by_cases e2:kd=2
   ·subst e2;obtain⟨fp,hRp,hnp,hfp,hlp,hsp⟩:=H.plain;obtain⟨a0,n0,c0,a1,n1,c1,b,o,c2',cr,f1,g1,he,hcm,hcl,hn1,hf1,hs1,hbm,hsg,hRr,hE,hset⟩:=X9 hRp hnp hfp hk;cases he;obtain⟨ra,rn,rc,rf,ra',rn',rc',rf',rfl,hff,hru,hre⟩:=id hRr;have hnm:=hE.nmem;rw[hff] at hnm;have hb1:b<w3.heap.size∧b∉ [g]:=⟨Rp.houseO.lt H.RO _ (hsp _ hbm),by have:=hlp _ hbm;simp;omega⟩
    have qr:w3.cell? ⟨b,o+kk*3+2,none⟩=some (.slice ra' rn' rc'):=hE.cells 2 _ rfl;clear hset hE hRr hru hre hRp hnp hfp hlp hsp hff hnm;go_upto_region 13 with fail
    refine Jt 10 _ rfl (fun k w'=>Rd w' g (P+10+1*k)∧Only [g] w3 w') (Only [g]) (jqe g w.heap.size b o m.Rz.length d2 kk) (by kernel_rfl) rfl (by kernel_rfl) rfl (jlk _ _ _ _ _ _ _) (Only.refl _) ⟨⟨((H.mono (show _≤P+10 by omega)).rd.step (Below.refl _ _).drew).mono (by omega),Only.of_below ((Below.refl _ _).drew) _⟩,fun s hs=> ?_,by rfl⟩ ?_ ?_
    ·skip;by_cases e0:s=0
     ·subst e0;rfl
     by_cases e3:s=3
     ·subst e3;rfl
     by_cases e5:s=5
     ·subst e5;rfl
     have hne:s∉ [71,72,73,74,75,76,77,78,79,80]:=fun hm=>by
      simp only[List.mem_cons,List.not_mem_nil,or_false] at hm;rcases hm with rfl|rfl|rfl|rfl|rfl|rfl|rfl|rfl|rfl|rfl<;>exact absurd hs (by decide)
     simp only[List.mem_cons,List.not_mem_nil,or_false,not_or] at hne;unfold jqe;split<;>first|trivial|(exfalso;omega)
    ·intro p hp;simp only[List.take_succ_cons,List.take_zero,List.mem_cons,List.not_mem_nil,or_false] at hp;rcases hp with rfl|rfl|rfl|rfl|rfl|rfl|rfl|rfl|rfl|rfl
     ·intro k a w' hk hC hR;have r3:_=_:=hR 3 (by decide);simp[Region.wanted,Jg,go_sem,execOp,r3,upT];exact⟨⟨hC.1.mono (by omega),hC.2⟩,Only.refl _ _,rfl⟩
     ·intro k a w' hk hC hR;have r71:_=_:=hR 71 (by decide);have hc:=Blk.c2 (H.km.only hC.2 (by have:=H.gl;simp;omega));simp[Region.wanted,Jg,go_sem,execOp,r71,hc,upT];exact⟨⟨hC.1.mono (by omega),hC.2⟩,Only.refl _ _,rfl⟩
     ·intro k a w' hk hC hR;have r5:_=_:=hR 5 (by decide);simp[Region.wanted,Jg,go_sem,execOp,r5,upT];exact⟨⟨hC.1.mono (by omega),hC.2⟩,Only.refl _ _,rfl⟩
     ·intro k a w' hk hC hR;simp[Region.wanted,Jg,go_sem,execOp,upT];have hg':=hC.1.lt;exact⟨⟨(hC.1.step ((Below.refl _ _).alloc nle _)).mono (by omega),hC.2.alloc _⟩,(Only.refl _ _).alloc _,⟨_,rfl,by omega,Blk.new _ _ _⟩⟩
     ·intro k a w' hk hC hR;have r0:_=_:=hR 0 (by decide);simp[Region.wanted,Jg,go_sem,execOp,r0,upT];exact⟨⟨hC.1.mono (by omega),hC.2⟩,Only.refl _ _,rfl⟩
     ·intro k a w' hk hC hR;have r75:_=_:=hR 75 (by decide);simp[Region.wanted,Jg,go_sem,execOp,r75,upT];have hk':k<40:=Nat.lt_of_lt_of_le hk (by decide);refine(Jk g _ 2 (by omega) (by omega) _ hC.1).mono ?_;rintro e w1 ⟨x,rfl,hx,hr,ho⟩;exact⟨_,rfl,⟨hr.mono (by omega),hC.2.trans ho⟩,ho,⟨x,rfl,by omega⟩⟩
     ·intro k a w' hk hC hR;obtain⟨b,r74,hb,hB⟩:FInts g _ _ _:=hR 74 (by decide);obtain⟨x,r76,hx⟩:jcn 2 _:=hR 76 (by decide);have x0:(x:Int)<2:=by omega
      simp[Region.wanted,Jg,go_sem,execOp,r74,r76,↓IntWalk.iteOmega,x0,upT];obtain⟨z,hz,hzc⟩:=jp1 (x:=x) hB (Only.refl [g] _) hb (by simpa using hx);exact⟨⟨hC.1.mono (by omega),hC.2⟩,Only.refl _ _,⟨b,x,z,rfl,hb,hB.lt,hz,hzc⟩⟩
     ·intro k a w' hk hC hR;obtain⟨b,x,z,r77,hb,hlt,hz,hc⟩:FICellL g _ _ _:=hR 77 (by decide);simp[Region.wanted,Jg,go_sem,execOp,r77,hc,upT];exact⟨⟨hC.1.mono (by omega),hC.2⟩,Only.refl _ _,⟨z,hz,rfl⟩⟩
     ·intro k a w' hk hC hR;have r72:_=_:=hR 72 (by decide);have r73:_=_:=hR 73 (by decide);simp[Region.wanted,Jg,go_sem,execOp,r72,r73,↓IntWalk.iteOmega,k1,upT];exact⟨⟨hC.1.mono (by omega),hC.2⟩,Only.refl _ _,rfl⟩
     ·intro k a w' hk hC hR;have r79:_=_:=hR 79 (by decide);simp[Region.wanted,Jg,go_sem,execOp,r79,upT];exact⟨⟨hC.1.mono (by omega),hC.2⟩,Only.refl _ _,rfl⟩
    ·rintro w5 ⟨hr5,ho5⟩;simp only[List.take_succ_cons,List.take_zero,jdb];intro v71 _ v72 _ v73 _ v74 _ v75 _ v76 _ v77 _ v78 h78 v79 _ v80 h80;have H5:=H.only ho5 hr5;obtain⟨z,hz,rfl⟩:jjx _ v78:=h78;obtain rfl:v80= .pointer (some ⟨b,o+kk*3,none⟩):=h80;obtain⟨fp,hRp,hnp,hfp,hlp,hsp⟩:=H5.plain
     obtain⟨a0,n0,c0,a1,n1,c1,b',o',c2',cr,f1,g1,he,hcm,hcl,hn1,hf1,hs1,hbm,hsg,hRr,hE,hset⟩:=X9 hRp hnp hfp hk;cases he;obtain⟨ra,rn,rc,rf,ra',rn',rc',rf',rfl,hff,hru,hre⟩:=id hRr;have hnm:=hE.nmem;rw[hff] at hnm;have q0:w5.cell? ⟨b,o+kk*3,none⟩=some (.int .i64 m.Rz[kk].Az):=hE.cells.at0;have y0:=hE.frozen (o+kk*3);have hE':=hE.put (j:=0) (by simp) (.int .i64 z)
     rw[Nat.add_zero] at hE';obtain⟨fp',j1,j2,j3,j4⟩:=hset _ _ { m.Rz[kk] with Az:=z} f1 hE' ⟨_,_,_,_,_,_,_,_,rfl,hff,hru.putN (fun h=>hnm (by simp[h])) _,hre.putN (fun h=>hnm (by simp[h])) _⟩ hn1 (fun x hx=> .inl hx) (fun x hx=>hE'.free x (hE'.sub x hx))
     have HB:=Ja (H5.bad (hlp _ hbm) j1 (fun z hz=>(j4 z hz).elim (hlp z) fun h=>hlp z (hs1 z h)) (jf6 (Jv hm.1) ⟨(Jv hm.1 kk hk).Uz,(Jv hm.1 kk hk).few,(Jv hm.1 kk hk).Fz⟩) (fun hk=>⟨hm.2,.inr ⟨j2,j3⟩⟩));clear hE hE' hset j1 j2 j3 j4 H5 H hRr hru hre hRp hnp hfp hlp hsp;go_wp2_with fail;go_meet
     case rel=>exact HB.out.mono (by omega)
   have n2:(kd==(2:Int))=false:=beq_eq_false_iff_ne.2 e2;clear e2;by_cases e3:kd=3
   ·subst e3;obtain⟨fp,hRp,hnp,hfp,hlp,hsp⟩:=H.plain;obtain⟨a0,n0,c0,a1,n1,c1,b,o,c2',cr,f1,g1,he,hcm,hcl,hn1,hf1,hs1,hbm,hsg,hRr,hE,hset⟩:=X9 hRp hnp hfp hk;cases he;obtain⟨ra,rn,rc,rf,ra',rn',rc',rf',rfl,hff,hru,hre⟩:=id hRr;have hnm:=hE.nmem;rw[hff] at hnm;have hb1:b<w3.heap.size∧b∉ [g]:=⟨Rp.houseO.lt H.RO _ (hsp _ hbm),by have:=hlp _ hbm;simp;omega⟩
    have qr:w3.cell? ⟨b,o+kk*3+2,none⟩=some (.slice ra' rn' rc'):=hE.cells 2 _ rfl;clear hset hE hRr hru hre hRp hnp hfp hlp hsp hff hnm;go_upto_region 15 with fail
    refine Jt 7 _ rfl (fun k w'=>Rd w' g (P+10+450*k)∧Only [g] w3 w') (Only [g]) (jqd g w.heap.size w3.heap.size b o m.Rz.length d2 kk) (by kernel_rfl) rfl (by kernel_rfl) rfl (jlj _ _ _ _ _ _ _ _ hgH) (Only.refl _) ⟨⟨((H.mono (show _≤P+10 by omega)).rd.step (Below.refl _ _).drew).mono (by omega),Only.of_below ((Below.refl _ _).drew) _⟩,fun s hs=> ?_,by rfl⟩ ?_ ?_
    ·skip;by_cases e0:s=0
     ·subst e0;rfl
     by_cases e3:s=3
     ·subst e3;rfl
     by_cases e5:s=5
     ·subst e5;rfl
     have hne:s∉ [83,84,85,86,87,88,89]:=fun hm=>by
      simp only[List.mem_cons,List.not_mem_nil,or_false] at hm;rcases hm with rfl|rfl|rfl|rfl|rfl|rfl|rfl<;>exact absurd hs (by decide)
     simp only[List.mem_cons,List.not_mem_nil,or_false,not_or] at hne;unfold jqd;split<;>first|trivial|(exfalso;omega)
    ·intro p hp;simp only[List.take_succ_cons,List.take_zero,List.mem_cons,List.not_mem_nil,or_false] at hp;rcases hp with rfl|rfl|rfl|rfl|rfl|rfl|rfl
     ·intro k a w' hk hC hR;have r3:_=_:=hR 3 (by decide);simp[Region.wanted,Jg,go_sem,execOp,r3,upT];exact⟨⟨hC.1.mono (by omega),hC.2⟩,Only.refl _ _,rfl⟩
     ·intro k a w' hk hC hR;have r83:_=_:=hR 83 (by decide);have hc:=Blk.c2 (H.km.only hC.2 (by have:=H.gl;simp;omega));simp[Region.wanted,Jg,go_sem,execOp,r83,hc,upT];exact⟨⟨hC.1.mono (by omega),hC.2⟩,Only.refl _ _,rfl⟩
     ·intro k a w' hk hC hR;have r5:_=_:=hR 5 (by decide);simp[Region.wanted,Jg,go_sem,execOp,r5,upT];exact⟨⟨hC.1.mono (by omega),hC.2⟩,Only.refl _ _,rfl⟩
     ·intro k a w' hk hC hR;have r0:_=_:=hR 0 (by decide);simp[Region.wanted,Jg,go_sem,execOp,r0,upT];exact⟨⟨hC.1.mono (by omega),hC.2⟩,Only.refl _ _,rfl⟩
     ·intro k a w' hk hC hR;have r86:_=_:=hR 86 (by decide);simp[Region.wanted,Jg,go_sem,execOp,r86,upT];have hk':k<8:=hk;refine(ji9 g _ 1 (by omega) (by omega) _ hC.1).mono ?_;rintro e w1 ⟨v,l,rfl,hown,hfl, -,hr,ho⟩;have hs':=hC.2.size;exact⟨_,rfl,⟨hr.mono (by omega),hC.2.trans ho⟩,ho,⟨l,Zy hown hs',hfl⟩⟩
     ·intro k a w' hk hC hR;have r84:_=_:=hR 84 (by decide);have r85:_=_:=hR 85 (by decide);simp[Region.wanted,Jg,go_sem,execOp,r84,r85,↓IntWalk.iteOmega,k1,upT];exact⟨⟨hC.1.mono (by omega),hC.2⟩,Only.refl _ _,rfl⟩
     ·intro k a w' hk hC hR;have r88:_=_:=hR 88 (by decide);simp[Region.wanted,Jg,go_sem,execOp,r88,upT];exact⟨⟨hC.1.mono (by omega),hC.2⟩,Only.refl _ _,rfl⟩
    ·rintro w5 ⟨hr5,ho5⟩;simp only[List.take_succ_cons,List.take_zero,jdb];intro v83 _ v84 _ v85 _ v86 _ v87 h87 v88 _ v89 h89;have H5:=H.only ho5 hr5;obtain⟨l,hown,hfl⟩:FRul _ v87 _:=h87;obtain rfl:v89= .pointer (some ⟨b,o+kk*3+1,none⟩):=h89;obtain⟨A',c',f',rfl,hsl,hfb,hfn,hff'⟩:=Xw (k:=4) (enc:=Jh) (hk:=fun _=>rfl) (h1:=Y9) hown;obtain⟨fp,hRp,hnp,hfp,hlp,hsp⟩:=H5.plain
     obtain⟨a0,n0,c0,a1,n1,c1,b',o',c2',cr,f1,g1,he,hcm,hcl,hn1,hf1,hs1,hbm,hsg,hRr,hE,hset⟩:=X9 hRp hnp hfp hk;cases he;obtain⟨ra,rn,rc,rf,ra',rn',rc',rf',rfl,hff,hru,hre⟩:=id hRr;have hnm:=hE.nmem;rw[hff] at hnm;have hold: ∀z∈fp,z<w3.heap.size:=fun z hz=>Rp.houseO.lt H.RO z (hsp z hz);have q1:w5.cell? ⟨b,o+kk*3+1,none⟩=some (.slice ra rn rc):=hE.cells 1 _ rfl
     have y1:=hE.frozen (o+kk*3+1);have hE':=hE.put (j:=1) (by simp) (.slice A' l.length c');have hbf:b∉f':=fun h=>by have:=hfb b h;have:=hold b hbm;omega
     have hrs: ∀z∈rf',z∈f1:=fun z hz=>by rw[hff];simp[hz]
     obtain⟨fp',j1,j2,j3,j4⟩:=hset _ _ { m.Rz[kk] with Uz:=l} (f'++rf') hE' ⟨_,_,_,f',_,_,_,rf',rfl,rfl,hsl.putN hbf _,hre.putN (fun h=>hnm (by simp[h])) _⟩ (List.nodup_append.2 ⟨hfn,(List.nodup_append.1 (hff▸hn1)).2.1,fun x hx y hy e=>by subst e;have:=hfb x hx;have:=hold x (hs1 x (hrs x hy));omega⟩) (fun x hx=>(List.mem_append.1 hx).elim (fun h=> .inr fun hm=>by have:=hfb x h;have:=hold x hm;omega) fun h=> .inl (hrs x h)) (fun x hx=>(List.mem_append.1 hx).elim (fun h=>(hff'.setCell _ rfl _) x h) fun h=>hE'.free x (hE'.sub x (hrs x h)))
     have hnew: ∀z,z∈f'++rf'→w.heap.size+1<z:=fun z hz=>(List.mem_append.1 hz).elim (fun h=>by have:=hfb z h;have:=H.kr.lt;omega) fun h=>hlp z (hs1 z (hrs z h));have HB:=Ja (H5.bad (hlp _ hbm) j1 (fun z hz=>(j4 z hz).elim (hlp z) fun h=>hnew z h) (jf6 (Jv hm.1) ⟨hfl,(Jv hm.1 kk hk).few,(Jv hm.1 kk hk).Fz⟩) (fun hk=>⟨hm.2,.inr ⟨j2,j3⟩⟩))
     clear hE hE' hset j1 j2 j3 j4 H5 H hRr hru hre hRp hnp hfp hlp hsp hown hsl hff';go_wp2_with fail;go_meet
     case rel=>exact HB.out.mono (by omega)
   have n3:(kd==(3:Int))=false:=beq_eq_false_iff_ne.2 e3;clear e3;by_cases e4:kd=4
   ·subst e4;have hk0:0<m.used.length:=by have:=(J8.1 (Jo.1 hm.1).1);omega
    have hle:=(J8.1 (Jo.1 hm.1).1);obtain⟨fp,hRp,hnp,hfp,hlp,hsp⟩:=H.plain;obtain⟨i0,hi0,hz0,hz1,hz2⟩:=info_parts jjd;obtain⟨xs,fx,hown,hal,hfw⟩:=H.UO;obtain⟨rfl,rfl⟩:=AllR.flat.1 hal;obtain⟨gu,cu,he1,_,_⟩:=jav hown hk0;cases he1;obtain⟨A0,n0,c0,f0,A1,n1,c1,f1,A2,n2,c2,f2,he,hff,h0,h1,h2⟩:=id hRp;cases he;obtain⟨bu,ou,cu1,fu1,heu, -,hbu, -, -, -⟩:=h1.get hk0;cases heu
    rw[hff] at hnp;obtain⟨k0n,k1n,k2n,d0n,d1n⟩:=jl5 hnp;have hguM:w.heap.size+1<gu:=hlp gu (by rw[hff];simp[hbu]);have hM:=H.km.lt;have hgl:=H.gl;have hown2:=hown.alloc (.cells #[.int .i64 0] 3);have HP:=Ja hlp;have HT:=Ja (And.intro h0 (And.intro h2 (And.intro d0n d1n)));have HN:=Ja hle;have HRF:=Ja hff;clear hRp hnp hfp hlp hsp h0 h1 h2 k0n k1n k2n d0n d1n hle hal hown hff
    have x1:=Blk.c1 H.km;skip;have hlu:m.used.length≤4:=by have:=HN.out;omega
    go_wp2_with(at_builtin;refine wpList_append_lies _ rfl _ _ 23 rfl 0 3 i0 _ 1 8 Tryz.underlying23 hi0 hz0 hz1 hz2 rfl (by decide) _ _ _ rfl hown2 ⟨w3.heap.size,0,none⟩ 1 1 [.int .i64 0] rfl rfl (Jm w3 [.int .i64 0] _) (by simp[Value.oneCell']) (by decide) (by unfold maxLen;omega) (by omega) (Nat.zero_le _) (w3.heap.size+1) (by simp) ?_);intro g4 cap4 w4 ho4 hgr hor hlt4
    have hO4:Only [gu] (w3.alloc (.cells #[.int .i64 0] 3)) w4:=⟨hgr.os,hgr.tape,hgr.output,hgr.size,fun k hk hn=>hgr.block k hk fun e=>hn (by simp[Value.ownBlock] at e;simp[e])⟩;have hO3:Only [gu] w3 w4:=((Only.refl [gu] w3).alloc _).trans hO4;have km4:=H.km.only hO3 (by simp;omega)
    have hX:Only [gu,w.heap.size] w3 (w4.setCell ⟨w.heap.size,1,none⟩ (.slice (some ⟨g4,0,none⟩) (m.used.length+1) cap4)):=(hO3.more (M:=w.heap.size)).setCell (p:=⟨w.heap.size,1,none⟩) (.inl (by simp)) _;obtain⟨A',c',f',he4,hs4,hfb4, -, -⟩:=SlR.of_owns (r:=Rp.int) (l:=m.used++ [0]) (f1:=[]) (by rw[List.length_append];exact ho4) (AllR.flat.2 ⟨by simp,rfl⟩);simp only[Value.slice.injEq] at he4
    obtain⟨rfl, -,rfl⟩:=he4;have hfM: ∀z∈f'++ [],w.heap.size+1<z:=fun z hz=>by
     have e:=(hfb4 z (by simpa using hz)).1;simp[Value.ownBlock] at e hor;rcases hor with h|h
     ·omega
     ·have:=H.kr.lt;omega
    have HB:=Ja (show BadR w g (P+8000) (w4.setCell ⟨w.heap.size,1,none⟩ (.slice (some ⟨g4,0,none⟩) (m.used.length+1) cap4)) from
     by
      have hin0: ∀z∈f0,z∉ [gu,w.heap.size]:=fun z hz=>by have:=HP.out z (by rw[HRF.out];simp[hz]);have:=(HT.out.2.2.1 z hz).1;simp only[List.mem_cons,List.not_mem_nil,or_false,not_or];exact⟨fun e=>this (e▸hbu),by omega⟩
      have hin2: ∀z∈f2,z∉ [gu,w.heap.size]:=fun z hz=>by have:=HP.out z (by rw[HRF.out];simp[hz]);simp only[List.mem_cons,List.not_mem_nil,or_false,not_or];exact⟨fun e=>HT.out.2.2.2 gu hbu (e▸hz),by omega⟩
      refine⟨{ m with used:=m.used++ [0]},B0,m.keys.length,d0,some ⟨g4,0,none⟩,m.used.length+1,cap4,B2,m.Rz.length,d2,f0++((f'++ [])++f2),(H.rd.only hX (by simp;omega)).mono (by omega),H.on.then_low (hX.below (by simp;omega) H.on.size), ?_,H.kr.only hX (by simp;omega),⟨_,_,_,f0,_,_,_,f'++ [],_,_,_,f2,rfl,rfl,HT.out.1.only hX hin0, ?_,HT.out.2.1.only hX hin2⟩,fun z hz=> ?_,fun i hi=>Jv hm.1 i hi,fun hk=> ?_⟩
      ·exact Jd (i:=1) km4 (.slice (some ⟨g4,0,none⟩) (m.used.length+1) cap4)
      ·have:=hs4.putN (b:=w.heap.size) (j:=1) (fun hm=>by have:=hfM _ hm;omega) (.slice (some ⟨g4,0,none⟩) (m.used.length+1) cap4);rw[List.length_append] at this;exact this
      ·simp only[List.mem_append] at hz;rcases hz with hz|(hz|hz)|hz
       ·exact HP.out z (by rw[HRF.out];simp[hz])
       ·exact hfM z (by simp[hz])
       ·cases hz
       ·exact HP.out z (by rw[HRF.out];simp[hz])
      ·have h3:=(J8.1 (Jo.1 hk).1).2.1;have h4:=HN.out.2.1;simp only[List.length_append,List.length_singleton] at h3;omega)
    have q1:=km4.cell 1;simp only[List.getElem?_toArray,List.getElem?_cons_zero,List.getElem?_cons_succ] at q1;have y1:=Ji km4 1;clear hO4 hO3 hX hs4 hfb4 hfM ho4 hgr hor km4 H x1;go_wp2_with fail;go_meet
    case rel=>exact HB.out
   have n4:(kd==(4:Int))=false:=beq_eq_false_iff_ne.2 e4;clear e4;by_cases e5:kd=5
   ·subst e5;obtain⟨fp,hRp,hnp,hfp,hlp,hsp⟩:=H.plain;obtain⟨a0,n0,c0,a1,n1,c1,b,o,c2',cr,f1,g1,he,hcm,hcl,hn1,hf1,hs1,hbm,hsg,hRr,hE,hset⟩:=X9 hRp hnp hfp hk;cases he;obtain⟨ra,rn,rc,rf,ra',rn',rc',rf',rfl,hff,hru,hre⟩:=id hRr;obtain rfl:=hre.1;have hmr:=hre.max;have hb1:b<w3.heap.size∧b∉ [g]:=⟨Rp.houseO.lt H.RO _ (hsp _ hbm),by have:=hlp _ hbm;simp;omega⟩
    have qr:w3.cell? ⟨b,o+kk*3+2,none⟩=some (.slice ra' m.Rz[kk].Fz.length rc'):=hE.cells 2 _ rfl;have x2:=Blk.c2 H.km;by_cases hr0:0<m.Rz[kk].Fz.length
    ·have hp0:(0:Int)<(m.Rz[kk].Fz.length:Int):=by omega
     obtain⟨sa,sn,sc,b2,o2,s2,cx,f2,g2,he2, -, -,hn2,hf2,hs2,hbm2,hsg2,hRx,hE2,hset2⟩:=jdj hRr hn1 hf1 hr0;cases he2;simp only[Nat.zero_mul,Nat.add_zero] at hE2 hset2;have hb2:b2<w3.heap.size∧b2∉ [g]:=⟨Rp.houseO.lt H.RO _ (hsp _ (hs1 _ hbm2)),by have:=hlp _ (hs1 _ hbm2);simp;omega⟩;clear hset hset2 hE hE2 hRr hRx hru hre hRp hnp hfp hlp hsp hff;go_upto_region 20 with fail
     clear x2
     refine Jt 13 _ rfl (fun k w'=>Rd w' g (P+10+1*k)∧Only [g] w3 w') (Only [g]) (jqc g w.heap.size b o m.Rz.length d2 kk b2 o2 m.Rz[kk].Fz.length rc') (by kernel_rfl) rfl (by kernel_rfl) rfl (jli _ _ _ _ _ _ _ _ _ _ _) (Only.refl _) ⟨⟨((H.mono (show _≤P+10 by omega)).rd.step (Below.refl _ _).drew).mono (by omega),Only.of_below ((Below.refl _ _).drew) _⟩,fun s hs=> ?_,by rfl⟩ ?_ ?_
     ·skip;by_cases e0:s=0
      ·subst e0;rfl
      by_cases e3:s=3
      ·subst e3;rfl
      by_cases e5:s=5
      ·subst e5;rfl
      have hne:s∉ [107,108,109,110,111,112,113,114,115,116,117,118,119]:=fun hm=>by
       simp only[List.mem_cons,List.not_mem_nil,or_false] at hm;rcases hm with rfl|rfl|rfl|rfl|rfl|rfl|rfl|rfl|rfl|rfl|rfl|rfl|rfl<;>exact absurd hs (by decide)
      simp only[List.mem_cons,List.not_mem_nil,or_false,not_or] at hne;unfold jqc;split<;>first|trivial|(exfalso;omega)
     ·intro p hp;simp only[List.take_succ_cons,List.take_zero,List.mem_cons,List.not_mem_nil,or_false] at hp;rcases hp with rfl|rfl|rfl|rfl|rfl|rfl|rfl|rfl|rfl|rfl|rfl|rfl|rfl
      ·intro k a w' hk hC hR;have r3:_=_:=hR 3 (by decide);simp[Region.wanted,Jg,go_sem,execOp,r3,upT];exact⟨⟨hC.1.mono (by omega),hC.2⟩,Only.refl _ _,rfl⟩
      ·intro k a w' hk hC hR;have r107:_=_:=hR 107 (by decide);have hc:=Blk.c2 (H.km.only hC.2 (by have:=H.gl;simp;omega));simp[Region.wanted,Jg,go_sem,execOp,r107,hc,upT];exact⟨⟨hC.1.mono (by omega),hC.2⟩,Only.refl _ _,rfl⟩
      ·intro k a w' hk hC hR;have r5:_=_:=hR 5 (by decide);simp[Region.wanted,Jg,go_sem,execOp,r5,upT];exact⟨⟨hC.1.mono (by omega),hC.2⟩,Only.refl _ _,rfl⟩
      ·intro k a w' hk hC hR;have r108:_=_:=hR 108 (by decide);have r109:_=_:=hR 109 (by decide);simp[Region.wanted,Jg,go_sem,execOp,r108,r109,↓IntWalk.iteOmega,k1,upT];exact⟨⟨hC.1.mono (by omega),hC.2⟩,Only.refl _ _,rfl⟩
      ·intro k a w' hk hC hR;have r110:_=_:=hR 110 (by decide);simp[Region.wanted,Jg,go_sem,execOp,r110,upT];exact⟨⟨hC.1.mono (by omega),hC.2⟩,Only.refl _ _,rfl⟩
      ·intro k a w' hk hC hR;have r111:_=_:=hR 111 (by decide);have hc:w'.cell? ⟨b,o+kk*3+2,none⟩=some (.slice (some ⟨b2,o2,none⟩) m.Rz[kk].Fz.length rc'):=by rw[World.cell?_of_block (a:=⟨b,o+kk*3+2,none⟩) (hC.2.block b hb1.1 hb1.2)];exact qr
       simp[Region.wanted,Jg,go_sem,execOp,r111,hc,upT];exact⟨⟨hC.1.mono (by omega),hC.2⟩,Only.refl _ _,rfl⟩
      ·intro k a w' hk hC hR;simp[Region.wanted,Jg,go_sem,execOp,upT];have hg':=hC.1.lt;exact⟨⟨(hC.1.step ((Below.refl _ _).alloc nle _)).mono (by omega),hC.2.alloc _⟩,(Only.refl _ _).alloc _,⟨_,rfl,by omega,Blk.new _ _ _⟩⟩
      ·intro k a w' hk hC hR;have r0:_=_:=hR 0 (by decide);simp[Region.wanted,Jg,go_sem,execOp,r0,upT];exact⟨⟨hC.1.mono (by omega),hC.2⟩,Only.refl _ _,rfl⟩
      ·intro k a w' hk hC hR;have r114:_=_:=hR 114 (by decide);simp[Region.wanted,Jg,go_sem,execOp,r114,upT];have hk':k<40:=Nat.lt_of_lt_of_le hk (by decide);refine(Jk g _ 3 (by omega) (by omega) _ hC.1).mono ?_;rintro e w1 ⟨x,rfl,hx,hr,ho⟩;exact⟨_,rfl,⟨hr.mono (by omega),hC.2.trans ho⟩,ho,⟨x,rfl,by omega⟩⟩
      ·intro k a w' hk hC hR;obtain⟨b,r113,hb,hB⟩:FInts g _ _ _:=hR 113 (by decide);obtain⟨x,r115,hx⟩:jcn 3 _:=hR 115 (by decide);have x0:(x:Int)<3:=by omega
       simp[Region.wanted,Jg,go_sem,execOp,r113,r115,↓IntWalk.iteOmega,x0,upT];obtain⟨z,hz,hzc⟩:=jp1 (x:=x) hB (Only.refl [g] _) hb (by simpa using hx);exact⟨⟨hC.1.mono (by omega),hC.2⟩,Only.refl _ _,⟨b,x,z,rfl,hb,hB.lt,hz,hzc⟩⟩
      ·intro k a w' hk hC hR;obtain⟨b,x,z,r116,hb,hlt,hz,hc⟩:FICellL g _ _ _:=hR 116 (by decide);simp[Region.wanted,Jg,go_sem,execOp,r116,hc,upT];exact⟨⟨hC.1.mono (by omega),hC.2⟩,Only.refl _ _,⟨z,hz,rfl⟩⟩
      ·intro k a w' hk hC hR;have r112:_=_:=hR 112 (by decide);simp[Region.wanted,Jg,go_sem,execOp,r112,↓IntWalk.iteOmega,hp0,upT];exact⟨⟨hC.1.mono (by omega),hC.2⟩,Only.refl _ _,rfl⟩
      ·intro k a w' hk hC hR;have r118:_=_:=hR 118 (by decide);simp[Region.wanted,Jg,go_sem,execOp,r118,upT];exact⟨⟨hC.1.mono (by omega),hC.2⟩,Only.refl _ _,rfl⟩
     ·rintro w5 ⟨hr5,ho5⟩;simp only[List.take_succ_cons,List.take_zero,jdb];intro v107 _ v108 _ v109 _ v110 _ v111 _ v112 _ v113 _ v114 _ v115 _ v116 _ v117 h117 v118 _ v119 h119;have H5:=H.only ho5 hr5;obtain⟨z,hz,rfl⟩:jjx _ v117:=h117;obtain rfl:v119= .pointer (some ⟨b2,o2+2,none⟩):=h119;obtain⟨fp,hRp,hnp,hfp,hlp,hsp⟩:=H5.plain
      obtain⟨a0,n0,c0,a1,n1,c1,b',o',c2',cr,f1,g1,he,hcm,hcl,hn1,hf1,hs1,hbm,hsg,hRr,hE,hset⟩:=X9 hRp hnp hfp hk;cases he;obtain⟨sa,sn,sc,b2',o2',s2,cx,f2,g2,he2, -, -,hn2,hf2,hs2,hbm2,hsg2,hRx,hE2,hset2⟩:=jdj hRr hn1 hf1 hr0;cases he2;simp only[Nat.zero_mul,Nat.add_zero] at hE2 hset2
      have u1:w5.cell? ⟨b,o+kk*3+2,none⟩=some (.slice (some ⟨b2',o2',none⟩) m.Rz[kk].Fz.length s2):=hE.cells 2 _ rfl;have u2:w5.cell? ⟨b,o+kk*3+2,none⟩=some (.slice (some ⟨b2,o2,none⟩) m.Rz[kk].Fz.length rc'):=by rw[World.cell?_of_block (a:=⟨b,o+kk*3+2,none⟩) (ho5.block b hb1.1 hb1.2)];exact qr
      cases u1.symm.trans u2;clear u1 u2;obtain⟨ta,tn,tc,tf,rfl,htf,hvr⟩:=id hRx;have q0:w5.cell? ⟨b2,o2+2,none⟩=some (.int .i64 m.Rz[kk].Fz[0].count):=hE2.cells 2 _ rfl;have y0:=hE2.frozen (o2+2);have hE2':=hE2.put (j:=2) (by simp) (.int .i64 z);have hnm2:=hE2.nmem;rw[htf] at hnm2
      obtain⟨fp2,i1,i2,i3,i4⟩:=hset2 _ _ { m.Rz[kk].Fz[0] with count:=z} f2 hE2' ⟨_,_,_,tf,rfl,htf,hvr.putN hnm2 _⟩ hn2 (fun x hx=> .inl hx) (fun x hx=>hE2'.free x (hE2'.sub x hx));have hE':=hE.inner (f:=f1) (w1:=w5.setCell ⟨b2,o2+2,none⟩ (.int .i64 z)) ((Only.refl f1 w5).setCell (p:=⟨b2,o2+2,none⟩) (.inl hbm2) _) (hf1.setCell _ rfl _)
      have hi4: ∀x∈fp2,x∈f1:=fun x hx=>(i4 x hx).elim id (hs2 x);obtain⟨fp',j1,j2,j3,j4⟩:=hset _ _ _ fp2 hE' i1 i2 (fun x hx=> .inl (hi4 x hx)) i3
      have HB:=Ja (H5.bad (hlp _ (hs1 _ hbm2)) j1 (fun z hz=>(j4 z hz).elim (hlp z) fun h=>hlp z (hs1 z (hi4 z h))) (jf6 (Jv hm.1) (jf5 (Jv hm.1 kk hk) ⟨((Jv hm.1 kk hk).Fz 0 hr0).name,((Jv hm.1 kk hk).Fz 0 hr0).Vz⟩)) (fun hk=>⟨hm.2,.inr ⟨j2,j3⟩⟩))
      clear hE hE' hE2 hE2' hset hset2 j1 j2 j3 j4 i1 i2 i3 i4 H5 H hRr hRx hRp hnp hfp hlp hsp hvr;go_wp2_with fail;go_meet
      case rel=>exact HB.out.mono (by omega)
    ·have hp0: ¬(0:Int)<(m.Rz[kk].Fz.length:Int):=by omega
     have HB:=Ja (H.same hi);clear hset hE hRr hru hre hRp hnp hfp hlp hsp hff H;go_wp2_with fail;go_meet
     case rel=>exact HB.out.mono (by omega)
   have n5:(kd==(5:Int))=false:=beq_eq_false_iff_ne.2 e5;clear e5;by_cases e6:kd=6
   ·subst e6;obtain⟨fp,hRp,hnp,hfp,hlp,hsp⟩:=H.plain;obtain⟨a0,n0,c0,a1,n1,c1,b,o,c2',cr,f1,g1,he,hcm,hcl,hn1,hf1,hs1,hbm,hsg,hRr,hE,hset⟩:=X9 hRp hnp hfp hk;cases he;obtain⟨ra,rn,rc,rf,ra',rn',rc',rf',rfl,hff,hru,hre⟩:=id hRr;obtain rfl:=hre.1;have hmr:=hre.max;have hb1:b<w3.heap.size∧b∉ [g]:=⟨Rp.houseO.lt H.RO _ (hsp _ hbm),by have:=hlp _ hbm;simp;omega⟩
    have qr:w3.cell? ⟨b,o+kk*3+2,none⟩=some (.slice ra' m.Rz[kk].Fz.length rc'):=hE.cells 2 _ rfl;have x2:=Blk.c2 H.km;by_cases hr0:0<m.Rz[kk].Fz.length
    ·have hp0:(0:Int)<(m.Rz[kk].Fz.length:Int):=by omega
     obtain⟨sa,sn,sc,b2,o2,s2,cx,f2,g2,he2, -, -,hn2,hf2,hs2,hbm2,hsg2,hRx,hE2,hset2⟩:=jdj hRr hn1 hf1 hr0;cases he2;simp only[Nat.zero_mul,Nat.add_zero] at hE2 hset2;have hb2:b2<w3.heap.size∧b2∉ [g]:=⟨Rp.houseO.lt H.RO _ (hsp _ (hs1 _ hbm2)),by have:=hlp _ (hs1 _ hbm2);simp;omega⟩
     have hv0:0<m.Rz[kk].Fz[0].Vz.length:=((RepoFit.of ((Jo.1 hm.1).2.2 _ (List.getElem_mem hk))).vers _ (List.getElem_mem hr0)).1;have hp1:(0:Int)<(m.Rz[kk].Fz[0].Vz.length:Int):=by omega
     obtain⟨b3,o3,c3,cv,f3,hev,hcv,hlv,hn3,hf3,hs3,hbm3,hRv,hE3,hset3⟩:=jly hRx hn2 hf2 hv0;subst hev;have qv:w3.cell? ⟨b2,o2+3,none⟩=some (.slice (some ⟨b3,o3,none⟩) m.Rz[kk].Fz[0].Vz.length c3):=hE2.cells 3 _ rfl;clear hset hset2 hset3 hE hE2 hE3 hRr hRx hRv hru hre hRp hnp hfp hlp hsp hff;go_upto_region 23 with fail
     clear x2
     refine Jt 12 _ rfl (fun k w'=>Rd w' g (P+10+70*k)∧Only [g] w3 w') (Only [g]) (jqb g w.heap.size w3.heap.size b o m.Rz.length d2 kk b2 o2 m.Rz[kk].Fz.length rc' b3 o3 m.Rz[kk].Fz[0].Vz.length c3) (by kernel_rfl) rfl (by kernel_rfl) rfl (jlh _ _ _ _ _ _ _ _ _ _ _ _ _ _ _ _ hgH) (Only.refl _) ⟨⟨((H.mono (show _≤P+10 by omega)).rd.step (Below.refl _ _).drew).mono (by omega),Only.of_below ((Below.refl _ _).drew) _⟩,fun s hs=> ?_,by rfl⟩ ?_ ?_
     ·skip;by_cases e0:s=0
      ·subst e0;rfl
      by_cases e3:s=3
      ·subst e3;rfl
      by_cases e5:s=5
      ·subst e5;rfl
      have hne:s∉ [130,131,132,133,134,135,136,137,138,139,140,141]:=fun hm=>by
       simp only[List.mem_cons,List.not_mem_nil,or_false] at hm;rcases hm with rfl|rfl|rfl|rfl|rfl|rfl|rfl|rfl|rfl|rfl|rfl|rfl<;>exact absurd hs (by decide)
      simp only[List.mem_cons,List.not_mem_nil,or_false,not_or] at hne;unfold jqb;split<;>first|trivial|(exfalso;omega)
     ·intro p hp;simp only[List.take_succ_cons,List.take_zero,List.mem_cons,List.not_mem_nil,or_false] at hp;rcases hp with rfl|rfl|rfl|rfl|rfl|rfl|rfl|rfl|rfl|rfl|rfl|rfl
      ·intro k a w' hk hC hR;have r3:_=_:=hR 3 (by decide);simp[Region.wanted,Jg,go_sem,execOp,r3,upT];exact⟨⟨hC.1.mono (by omega),hC.2⟩,Only.refl _ _,rfl⟩
      ·intro k a w' hk hC hR;have r130:_=_:=hR 130 (by decide);have hc:=Blk.c2 (H.km.only hC.2 (by have:=H.gl;simp;omega));simp[Region.wanted,Jg,go_sem,execOp,r130,hc,upT];exact⟨⟨hC.1.mono (by omega),hC.2⟩,Only.refl _ _,rfl⟩
      ·intro k a w' hk hC hR;have r5:_=_:=hR 5 (by decide);simp[Region.wanted,Jg,go_sem,execOp,r5,upT];exact⟨⟨hC.1.mono (by omega),hC.2⟩,Only.refl _ _,rfl⟩
      ·intro k a w' hk hC hR;have r131:_=_:=hR 131 (by decide);have r132:_=_:=hR 132 (by decide);simp[Region.wanted,Jg,go_sem,execOp,r131,r132,↓IntWalk.iteOmega,k1,upT];exact⟨⟨hC.1.mono (by omega),hC.2⟩,Only.refl _ _,rfl⟩
      ·intro k a w' hk hC hR;have r133:_=_:=hR 133 (by decide);simp[Region.wanted,Jg,go_sem,execOp,r133,upT];exact⟨⟨hC.1.mono (by omega),hC.2⟩,Only.refl _ _,rfl⟩
      ·intro k a w' hk hC hR;have r134:_=_:=hR 134 (by decide);have hc:w'.cell? ⟨b,o+kk*3+2,none⟩=some (.slice (some ⟨b2,o2,none⟩) m.Rz[kk].Fz.length rc'):=by rw[World.cell?_of_block (a:=⟨b,o+kk*3+2,none⟩) (hC.2.block b hb1.1 hb1.2)];exact qr
       simp[Region.wanted,Jg,go_sem,execOp,r134,hc,upT];exact⟨⟨hC.1.mono (by omega),hC.2⟩,Only.refl _ _,rfl⟩
      ·intro k a w' hk hC hR;have r135:_=_:=hR 135 (by decide);simp[Region.wanted,Jg,go_sem,execOp,r135,↓IntWalk.iteOmega,hp0,upT];exact⟨⟨hC.1.mono (by omega),hC.2⟩,Only.refl _ _,rfl⟩
      ·intro k a w' hk hC hR;have r136:_=_:=hR 136 (by decide);simp[Region.wanted,Jg,go_sem,execOp,r136,upT];exact⟨⟨hC.1.mono (by omega),hC.2⟩,Only.refl _ _,rfl⟩
      ·intro k a w' hk hC hR;have r137:_=_:=hR 137 (by decide);have hc:w'.cell? ⟨b2,o2+3,none⟩=some (.slice (some ⟨b3,o3,none⟩) m.Rz[kk].Fz[0].Vz.length c3):=by rw[World.cell?_of_block (a:=⟨b2,o2+3,none⟩) (hC.2.block b2 hb2.1 hb2.2)];exact qv
       simp[Region.wanted,Jg,go_sem,execOp,r137,hc,upT];exact⟨⟨hC.1.mono (by omega),hC.2⟩,Only.refl _ _,rfl⟩
      ·intro k a w' hk hC hR;have r0:_=_:=hR 0 (by decide);simp[Region.wanted,Jg,go_sem,execOp,r0,upT];exact⟨⟨hC.1.mono (by omega),hC.2⟩,Only.refl _ _,rfl⟩
      ·intro k a w' hk hC hR;have r139:_=_:=hR 139 (by decide);simp[Region.wanted,Jg,go_sem,execOp,r139,upT];have hk':k<13:=hk;refine(jft g _ 1 (by omega) (by omega) _ hC.1).mono ?_;rintro e w1 ⟨v,l,rfl,hown,hfl, -,hr,ho⟩;have hs':=hC.2.size;exact⟨_,rfl,⟨hr.mono (by omega),hC.2.trans ho⟩,ho,⟨l,Zy hown hs',hfl⟩⟩
      ·intro k a w' hk hC hR;have r138:_=_:=hR 138 (by decide);simp[Region.wanted,Jg,go_sem,execOp,r138,↓IntWalk.iteOmega,hp1,upT];exact⟨⟨hC.1.mono (by omega),hC.2⟩,Only.refl _ _,rfl⟩
     ·rintro w5 ⟨hr5,ho5⟩;simp only[List.take_succ_cons,List.take_zero,jdb];intro v130 _ v131 _ v132 _ v133 _ v134 _ v135 _ v136 _ v137 _ v138 _ v139 _ v140 h140 v141 h141;have H5:=H.only ho5 hr5;obtain⟨l,hown,hfl⟩:FFil _ v140 _:=h140;obtain rfl:v141= .pointer (some ⟨b3,o3,none⟩):=h141;obtain⟨A',c',f',rfl,hsl,hfb,hfn,hff'⟩:=Yp hown;obtain⟨fp,hRp,hnp,hfp,hlp,hsp⟩:=H5.plain
      obtain⟨a0,n0,c0,a1,n1,c1,b',o',c2',cr,f1,g1,he,hcm,hcl,hn1,hf1,hs1,hbm,hsg,hRr,hE,hset⟩:=X9 hRp hnp hfp hk;cases he;obtain⟨sa,sn,sc,b2',o2',s2,cx,f2,g2,he2, -, -,hn2,hf2,hs2,hbm2,hsg2,hRx,hE2,hset2⟩:=jdj hRr hn1 hf1 hr0;cases he2;simp only[Nat.zero_mul,Nat.add_zero] at hE2 hset2
      have u1:w5.cell? ⟨b,o+kk*3+2,none⟩=some (.slice (some ⟨b2',o2',none⟩) m.Rz[kk].Fz.length s2):=hE.cells 2 _ rfl;have u2:w5.cell? ⟨b,o+kk*3+2,none⟩=some (.slice (some ⟨b2,o2,none⟩) m.Rz[kk].Fz.length rc'):=by rw[World.cell?_of_block (a:=⟨b,o+kk*3+2,none⟩) (ho5.block b hb1.1 hb1.2)];exact qr
      cases u1.symm.trans u2;clear u1 u2;obtain⟨b3',o3',c3',cv,f3,hev, -, -,hn3,hf3,hs3,hbm3,⟨va,vn,vc,rfl,hvs⟩,hE3,hset3⟩:=jly hRx hn2 hf2 hv0;have q3:w5.cell? ⟨b2,o2+3,none⟩=some (.slice (some ⟨b3',o3',none⟩) m.Rz[kk].Fz[0].Vz.length c3'):=by subst hev;exact hE2.cells 3 _ rfl
      have q4:w5.cell? ⟨b2,o2+3,none⟩=some (.slice (some ⟨b3,o3,none⟩) m.Rz[kk].Fz[0].Vz.length c3):=by rw[World.cell?_of_block (a:=⟨b2,o2+3,none⟩) (ho5.block b2 hb2.1 hb2.2)];exact qv
      cases q3.symm.trans q4;simp only[Nat.add_zero] at hE3 hset3;have hold: ∀z∈fp,z<w3.heap.size:=fun z hz=>Rp.houseO.lt H.RO z (hsp z hz);have q0:w5.cell? ⟨b3,o3,none⟩=some (.slice va vn vc):=hE3.cells.at0;have y0:=hE3.frozen o3;have hE3':=hE3.put (j:=0) (by simp) (.slice A' l.length c');rw[Nat.add_zero] at hE3';have hbf:b3∉f':=fun h=>by have:=hfb b3 h;have:=hold b3 (hs1 _ (hs2 _ hbm3));omega
      have hfar: ∀x∈f',x∉fp:=fun x h hm=>by have:=hfb x h;have:=hold x hm;omega
      obtain⟨fp3,l1,l2,l3,l4⟩:=hset3 _ _ l f' hE3' ⟨_,_,_,rfl,hsl.putN hbf _⟩ hfn (fun x hx=> .inr fun hm=>hfar x hx (hs1 x (hs2 x hm))) (hff'.setCell _ rfl _);have hE2':=hE2.inner (f:=f2) (w1:=w5.setCell ⟨b3,o3,none⟩ (.slice A' l.length c')) ((Only.refl f2 w5).setCell (p:=⟨b3,o3,none⟩) (.inl hbm3) _) (hf2.setCell _ rfl _)
      obtain⟨fp2,i1,i2,i3,i4⟩:=hset2 _ _ _ fp3 hE2' l1 l2 (fun x hx=>(l4 x hx).imp id fun h hm=>hfar x h (hs1 x hm)) l3;have hE':=hE.inner (f:=f1) (w1:=w5.setCell ⟨b3,o3,none⟩ (.slice A' l.length c')) ((Only.refl f1 w5).setCell (p:=⟨b3,o3,none⟩) (.inl (hs2 _ hbm3)) _) (hf1.setCell _ rfl _);have hi4: ∀x∈fp2,x∈f1∨x∈f':=fun x hx=>(i4 x hx).elim .inl fun h=>(l4 x h).imp (hs2 x) id
      obtain⟨fp',j1,j2,j3,j4⟩:=hset _ _ _ fp2 hE' i1 i2 (fun x hx=>(hi4 x hx).imp id (hfar x)) i3;have hnew: ∀z,z∈fp2→w.heap.size+1<z:=fun z hz=>(hi4 z hz).elim (fun h=>hlp z (hs1 z h)) fun h=>by have:=hfb z h;have:=H.kr.lt;omega
      have HB:=Ja (H5.bad (hlp _ (hs1 _ (hs2 _ hbm3))) j1 (fun z hz=>(j4 z hz).elim (hlp z) fun h=>hnew z h) (jf6 (Jv hm.1) (jf5 (Jv hm.1 kk hk) (jk2 ((Jv hm.1 kk hk).Fz 0 hr0) (jcv hfl)))) (fun hk=>⟨hm.2,.inr ⟨j2,j3⟩⟩))
      clear hE hE' hE2 hE2' hE3 hE3' hset hset2 hset3 j1 j2 j3 j4 i1 i2 i3 i4 l1 l2 l3 l4 H5 H hRr hRx hRp hnp hfp hlp hsp hvs q3 q4 hown hsl hff';go_wp2_with fail;go_meet
      case rel=>exact HB.out.mono (by omega)
    ·have hp0: ¬(0:Int)<(m.Rz[kk].Fz.length:Int):=by omega
     have HB:=Ja (H.same hi);clear hset hE hRr hru hre hRp hnp hfp hlp hsp hff H;go_wp2_with fail;go_meet
     case rel=>exact HB.out.mono (by omega)
   have n6:(kd==(6:Int))=false:=beq_eq_false_iff_ne.2 e6;clear e6;obtain⟨fp,hRp,hnp,hfp,hlp,hsp⟩:=H.plain;obtain⟨a0,n0,c0,a1,n1,c1,b,o,c2',cr,f1,g1,he,hcm,hcl,hn1,hf1,hs1,hbm,hsg,hRr,hE,hset⟩:=X9 hRp hnp hfp hk;cases he;obtain⟨ra,rn,rc,rf,ra',rn',rc',rf',rfl,hff,hru,hre⟩:=id hRr;obtain rfl:=hre.1;have hmr:=hre.max
   have hb1:b<w3.heap.size∧b∉ [g]:=⟨Rp.houseO.lt H.RO _ (hsp _ hbm),by have:=hlp _ hbm;simp;omega⟩;have qr:w3.cell? ⟨b,o+kk*3+2,none⟩=some (.slice ra' m.Rz[kk].Fz.length rc'):=hE.cells 2 _ rfl;have x2:=Blk.c2 H.km;by_cases hr0:0<m.Rz[kk].Fz.length
   ·have hp0:(0:Int)<(m.Rz[kk].Fz.length:Int):=by omega
    obtain⟨A0',n0',c0',f0',A1',n1',c1',f1',b',cc,cur,crO,fr,he',q0',q1',hcur,hbm',hbl',hbf',hfn',hsub',hf1n',hd1',hd0',hcells',hRO,hsetO⟩:=jb9 H.RO H.ow.1 hk;cases he';obtain⟨Ra,rna,rca,rfa,vR,rfb,rfl,hfrO,hrO,⟨xs,fxs,hown,hal,hfx⟩⟩:=hRO;obtain⟨gr,capr,rfl,_,_⟩:=jav hown hr0;have qr2:w3.cell? ⟨b,kk*3+2,none⟩=some (.slice (some ⟨gr,0,none⟩) m.Rz[kk].Fz.length capr):=hcells' 2 _ rfl
    simp only[Nat.zero_add] at qr;cases qr.symm.trans qr2;clear qr2;have hown:w3.ownsRow 0 52 4 (.slice (some ⟨gr,0,none⟩) m.Rz[kk].Fz.length rc') m.Rz[kk].Fz.length xs:=hown;have hown:=jpx (B:=w.heap.size+2) hown (by have:=H.lo _ (hsub' _ (by rw[hfrO,hfx];simp[Vm,Value.ownBlock]:gr∈fr));omega);have hgrf:gr∈fr:=by rw[hfrO,hfx];simp[Vm,Value.ownBlock]
    have hgrb:gr≠b:=fun e=>hbf' (e▸hgrf);have hgrM:w.heap.size+1<gr:=H.lo _ (hsub' _ hgrf);have hbM:w.heap.size+1<b:=H.lo _ hbm';have hgrx:gr∉fxs:=by
     have:=hfn';rw[hfrO,hfx] at this;have h2:=(List.nodup_append.1 this).2.1;exact fun hm=>(List.nodup_append.1 h2).2.2 gr (by simp[Vm,Value.ownBlock]) gr hm rfl
    have hgra:gr∉rfa:=by
     have:=hfn';rw[hfrO,hfx] at this;exact fun hm=>(List.nodup_append.1 this).2.2 gr hm gr (by simp[Vm,Value.ownBlock]) rfl
    obtain⟨fP,hAP,hsubP⟩:=hal.le jbl;obtain⟨c0x,cx,c1x,g0x,fx,g1x,e1,e2,e3,e4,hRx,e6⟩:=hAP.split hr0;have hlen0:c0x= []:=by
     have:=e4.len;simp at this;exact this
    subst hlen0;obtain⟨ta,tn,tc,tf,rfl,htf,hvr⟩:=id hRx;have hx0: ∀j u,[Value.string m.Rz[kk].Fz[0].name,.bool m.Rz[kk].Fz[0].guard,.int .i64 m.Rz[kk].Fz[0].count,.slice ta tn tc][j]? =some u→w3.cell? ⟨gr,j,none⟩=some u:=fun j u hu=>by
     have hj:=(List.getElem?_eq_some_iff.1 hu).1;simp only[List.length_cons,List.length_nil] at hj;rw[hown.cellAt j (by omega),e1];simp only[List.nil_append];rw[List.getElem?_append_left (by simpa using hj)];exact hu
    have u0:=hx0 0 _ rfl;have u1:=hx0 1 _ rfl;have u2:=hx0 2 _ rfl;have u3:=hx0 3 _ rfl;obtain⟨i0,hi0,hz0,hz1,hz2⟩:=info_parts joy;have hnr:=((RepoFit.of ((Jo.1 hm.1).2.2 _ (List.getElem_mem hk))).nrefs);have HH:=Ja (And.intro hsetO (And.intro hrO (And.intro hal (And.intro hAP (And.intro hRx (And.intro q1' (And.intro hcells' hf1n')))))))
    have hfP: ∀z∈fP,z∈fxs:=fun z hz=>hsubP.subset hz;have hfx2: ∀z∈fx,z∈fP:=fun z hz=>by rw[e2];simp[hz]
    clear hset hE hRr hru hre hRp hnp hfp hlp hsp hff hsetO hrO hal hAP hRx q0' q1' hcells' hf1n' hx0 e1 e3 e4 e6;go_upto_region 7 with fail
    clear x2;have hgl':gr<w3.heap.size:=Rp.houseO.lt H.RO _ (hsub' _ hgrf)
    refine Jz 21 _ rfl (fun L τ w'=>RqT [(18,8),(18,17),(17,16),(16,15),(15,14),(14,13),(13,12),(12,10),(12,11),(10,9),(8,7),(7,6),(6,4),(6,5),(4,3),(19,1),(19,2),(1,0),(20,19)] 18 46 gr w3 (fun v w'=>w'.ownsRow (w.heap.size+2) 52 4 v (m.Rz[kk].Fz.length+1) (xs++(#[.string m.Rz[kk].Fz[0].name,.bool m.Rz[kk].Fz[0].guard,.int .i64 m.Rz[kk].Fz[0].count,.slice ta tn tc]:Array Value).toList)) L τ w') (Only [gr]) (jqa w.heap.size b gr kk m.Rz.length d2 m.Rz[kk].Fz.length rc' #[.string m.Rz[kk].Fz[0].name,.bool m.Rz[kk].Fz[0].guard,.int .i64 m.Rz[kk].Fz[0].count,.slice ta tn tc]) (by kernel_rfl) rfl (by kernel_rfl) rfl (jlg _ _ _ _ _ _ _ _ _) (Only.refl _) ⟨RqT.start,fun s hs=> ?_,by rfl⟩ ?_ ?_
    ·skip;by_cases e3:s=3
     ·subst e3;rfl
     by_cases e5:s=5
     ·subst e5;rfl
     have hne:s∉ [28,29,30,31,32,33,34,35,36,37,38,39,40,41,42,43,44,45,46,47,48]:=fun hm=>by
      simp only[List.mem_cons,List.not_mem_nil,or_false] at hm;rcases hm with rfl|rfl|rfl|rfl|rfl|rfl|rfl|rfl|rfl|rfl|rfl|rfl|rfl|rfl|rfl|rfl|rfl|rfl|rfl|rfl|rfl<;>exact absurd hs (by decide)
     simp only[List.mem_cons,List.not_mem_nil,or_false,not_or] at hne;unfold jqa;split<;>first|trivial|(exfalso;omega)
    ·intro i p hi hp;have hcases:i=0∨i=1∨i=2∨i=3∨i=4∨i=5∨i=6∨i=7∨i=8∨i=9∨i=10∨i=11∨i=12∨i=13∨i=14∨i=15∨i=16∨i=17∨i=18∨i=19∨i=20:=by omega
     rcases hcases with rfl|rfl|rfl|rfl|rfl|rfl|rfl|rfl|rfl|rfl|rfl|rfl|rfl|rfl|rfl|rfl|rfl|rfl|rfl|rfl|rfl
     all_goals(obtain rfl:=Option.some.inj hp)
     ·intro L a w' hL hl hall hC hR;have hcs: ∀p∈([(18,8),(18,17),(17,16),(16,15),(15,14),(14,13),(13,12),(12,10),(12,11),(10,9),(8,7),(7,6),(6,4),(6,5),(4,3),(19,1),(19,2),(1,0),(20,19)]:List (Nat×Nat)),p.1=0→L.getD p.2 false=true:=by
       intro p hp h1;simp only[List.mem_cons,List.not_mem_nil,or_false] at hp;rcases hp with rfl|rfl|rfl|rfl|rfl|rfl|rfl|rfl|rfl|rfl|rfl|rfl|rfl|rfl|rfl|rfl|rfl|rfl|rfl<;>exact absurd h1 (by decide)
      have r3:_=_:=hR 3 (by decide);simp[Region.wanted,Jg,go_sem,execOp,r3,upT];exact⟨Only.refl _ _,rfl,hC.pure (by decide) (by decide) hcs⟩
     ·intro L a w' hL hl hall hC hR;have hcs: ∀p∈([(18,8),(18,17),(17,16),(16,15),(15,14),(14,13),(13,12),(12,10),(12,11),(10,9),(8,7),(7,6),(6,4),(6,5),(4,3),(19,1),(19,2),(1,0),(20,19)]:List (Nat×Nat)),p.1=1→L.getD p.2 false=true:=by
       intro p hp h1;simp only[List.mem_cons,List.not_mem_nil,or_false] at hp;rcases hp with rfl|rfl|rfl|rfl|rfl|rfl|rfl|rfl|rfl|rfl|rfl|rfl|rfl|rfl|rfl|rfl|rfl|rfl|rfl<;>first|exact absurd h1 (by decide)|exact hall ⟨_,.data⟩ (by simp) (by decide)
      have r28:_=_:=hR 28 (by decide);have hc:=Blk.c2 (H.km.only hC.on (by simp only[List.mem_singleton];omega));simp[Region.wanted,Jg,go_sem,execOp,r28,hc,upT];exact⟨Only.refl _ _,rfl,hC.pure (by decide) (by decide) hcs⟩
     ·intro L a w' hL hl hall hC hR;have hcs: ∀p∈([(18,8),(18,17),(17,16),(16,15),(15,14),(14,13),(13,12),(12,10),(12,11),(10,9),(8,7),(7,6),(6,4),(6,5),(4,3),(19,1),(19,2),(1,0),(20,19)]:List (Nat×Nat)),p.1=2→L.getD p.2 false=true:=by
       intro p hp h1;simp only[List.mem_cons,List.not_mem_nil,or_false] at hp;rcases hp with rfl|rfl|rfl|rfl|rfl|rfl|rfl|rfl|rfl|rfl|rfl|rfl|rfl|rfl|rfl|rfl|rfl|rfl|rfl<;>exact absurd h1 (by decide)
      have r5:_=_:=hR 5 (by decide);simp[Region.wanted,Jg,go_sem,execOp,r5,upT];exact⟨Only.refl _ _,rfl,hC.pure (by decide) (by decide) hcs⟩
     ·intro L a w' hL hl hall hC hR;have hcs: ∀p∈([(18,8),(18,17),(17,16),(16,15),(15,14),(14,13),(13,12),(12,10),(12,11),(10,9),(8,7),(7,6),(6,4),(6,5),(4,3),(19,1),(19,2),(1,0),(20,19)]:List (Nat×Nat)),p.1=3→L.getD p.2 false=true:=by
       intro p hp h1;simp only[List.mem_cons,List.not_mem_nil,or_false] at hp;rcases hp with rfl|rfl|rfl|rfl|rfl|rfl|rfl|rfl|rfl|rfl|rfl|rfl|rfl|rfl|rfl|rfl|rfl|rfl|rfl<;>exact absurd h1 (by decide)
      have r3:_=_:=hR 3 (by decide);simp[Region.wanted,Jg,go_sem,execOp,r3,upT];exact⟨Only.refl _ _,rfl,hC.pure (by decide) (by decide) hcs⟩
     ·intro L a w' hL hl hall hC hR;have hcs: ∀p∈([(18,8),(18,17),(17,16),(16,15),(15,14),(14,13),(13,12),(12,10),(12,11),(10,9),(8,7),(7,6),(6,4),(6,5),(4,3),(19,1),(19,2),(1,0),(20,19)]:List (Nat×Nat)),p.1=4→L.getD p.2 false=true:=by
       intro p hp h1;simp only[List.mem_cons,List.not_mem_nil,or_false] at hp;rcases hp with rfl|rfl|rfl|rfl|rfl|rfl|rfl|rfl|rfl|rfl|rfl|rfl|rfl|rfl|rfl|rfl|rfl|rfl|rfl<;>first|exact absurd h1 (by decide)|exact hall ⟨_,.data⟩ (by simp) (by decide)
      have r31:_=_:=hR 31 (by decide);have hc:=Blk.c2 (H.km.only hC.on (by simp only[List.mem_singleton];omega));simp[Region.wanted,Jg,go_sem,execOp,r31,hc,upT];exact⟨Only.refl _ _,rfl,hC.pure (by decide) (by decide) hcs⟩
     ·intro L a w' hL hl hall hC hR;have hcs: ∀p∈([(18,8),(18,17),(17,16),(16,15),(15,14),(14,13),(13,12),(12,10),(12,11),(10,9),(8,7),(7,6),(6,4),(6,5),(4,3),(19,1),(19,2),(1,0),(20,19)]:List (Nat×Nat)),p.1=5→L.getD p.2 false=true:=by
       intro p hp h1;simp only[List.mem_cons,List.not_mem_nil,or_false] at hp;rcases hp with rfl|rfl|rfl|rfl|rfl|rfl|rfl|rfl|rfl|rfl|rfl|rfl|rfl|rfl|rfl|rfl|rfl|rfl|rfl<;>exact absurd h1 (by decide)
      have r5:_=_:=hR 5 (by decide);simp[Region.wanted,Jg,go_sem,execOp,r5,upT];exact⟨Only.refl _ _,rfl,hC.pure (by decide) (by decide) hcs⟩
     ·intro L a w' hL hl hall hC hR;have hcs: ∀p∈([(18,8),(18,17),(17,16),(16,15),(15,14),(14,13),(13,12),(12,10),(12,11),(10,9),(8,7),(7,6),(6,4),(6,5),(4,3),(19,1),(19,2),(1,0),(20,19)]:List (Nat×Nat)),p.1=6→L.getD p.2 false=true:=by
       intro p hp h1;simp only[List.mem_cons,List.not_mem_nil,or_false] at hp;rcases hp with rfl|rfl|rfl|rfl|rfl|rfl|rfl|rfl|rfl|rfl|rfl|rfl|rfl|rfl|rfl|rfl|rfl|rfl|rfl<;>first|exact absurd h1 (by decide)|exact hall ⟨_,.data⟩ (by simp) (by decide)
      have r32:_=_:=hR 32 (by decide);have r33:_=_:=hR 33 (by decide);simp[Region.wanted,Jg,go_sem,execOp,r32,r33,↓IntWalk.iteOmega,k1,upT];exact⟨Only.refl _ _,rfl,hC.pure (by decide) (by decide) hcs⟩
     ·intro L a w' hL hl hall hC hR;have hcs: ∀p∈([(18,8),(18,17),(17,16),(16,15),(15,14),(14,13),(13,12),(12,10),(12,11),(10,9),(8,7),(7,6),(6,4),(6,5),(4,3),(19,1),(19,2),(1,0),(20,19)]:List (Nat×Nat)),p.1=7→L.getD p.2 false=true:=by
       intro p hp h1;simp only[List.mem_cons,List.not_mem_nil,or_false] at hp;rcases hp with rfl|rfl|rfl|rfl|rfl|rfl|rfl|rfl|rfl|rfl|rfl|rfl|rfl|rfl|rfl|rfl|rfl|rfl|rfl<;>first|exact absurd h1 (by decide)|exact hall ⟨_,.data⟩ (by simp) (by decide)
      have r34:_=_:=hR 34 (by decide);simp[Region.wanted,Jg,go_sem,execOp,r34,upT];exact⟨Only.refl _ _,rfl,hC.pure (by decide) (by decide) hcs⟩
     ·intro L a w' hL hl hall hC hR;have hcs: ∀p∈([(18,8),(18,17),(17,16),(16,15),(15,14),(14,13),(13,12),(12,10),(12,11),(10,9),(8,7),(7,6),(6,4),(6,5),(4,3),(19,1),(19,2),(1,0),(20,19)]:List (Nat×Nat)),p.1=8→L.getD p.2 false=true:=by
       intro p hp h1;simp only[List.mem_cons,List.not_mem_nil,or_false] at hp;rcases hp with rfl|rfl|rfl|rfl|rfl|rfl|rfl|rfl|rfl|rfl|rfl|rfl|rfl|rfl|rfl|rfl|rfl|rfl|rfl<;>first|exact absurd h1 (by decide)|exact hall ⟨_,.data⟩ (by simp) (by decide)
      have r35:_=_:=hR 35 (by decide);have hc:w'.cell? ⟨b,kk*3+2,none⟩=some (.slice (some ⟨gr,0,none⟩) m.Rz[kk].Fz.length rc'):=by rw[World.cell?_of_block (a:=⟨b,kk*3+2,none⟩) (hC.on.block b hbl' (by simp only[List.mem_singleton];omega))];exact qr
      simp[Region.wanted,Jg,go_sem,execOp,r35,hc,upT];exact⟨Only.refl _ _,rfl,hC.pure (by decide) (by decide) hcs⟩
     ·intro L a w' hL hl hall hC hR;have hcs: ∀p∈([(18,8),(18,17),(17,16),(16,15),(15,14),(14,13),(13,12),(12,10),(12,11),(10,9),(8,7),(7,6),(6,4),(6,5),(4,3),(19,1),(19,2),(1,0),(20,19)]:List (Nat×Nat)),p.1=9→L.getD p.2 false=true:=by
       intro p hp h1;simp only[List.mem_cons,List.not_mem_nil,or_false] at hp;rcases hp with rfl|rfl|rfl|rfl|rfl|rfl|rfl|rfl|rfl|rfl|rfl|rfl|rfl|rfl|rfl|rfl|rfl|rfl|rfl<;>exact absurd h1 (by decide)
      have r3:_=_:=hR 3 (by decide);simp[Region.wanted,Jg,go_sem,execOp,r3,upT];exact⟨Only.refl _ _,rfl,hC.pure (by decide) (by decide) hcs⟩
     ·intro L a w' hL hl hall hC hR;have hcs: ∀p∈([(18,8),(18,17),(17,16),(16,15),(15,14),(14,13),(13,12),(12,10),(12,11),(10,9),(8,7),(7,6),(6,4),(6,5),(4,3),(19,1),(19,2),(1,0),(20,19)]:List (Nat×Nat)),p.1=10→L.getD p.2 false=true:=by
       intro p hp h1;simp only[List.mem_cons,List.not_mem_nil,or_false] at hp;rcases hp with rfl|rfl|rfl|rfl|rfl|rfl|rfl|rfl|rfl|rfl|rfl|rfl|rfl|rfl|rfl|rfl|rfl|rfl|rfl<;>first|exact absurd h1 (by decide)|exact hall ⟨_,.data⟩ (by simp) (by decide)
      have r37:_=_:=hR 37 (by decide);have hc:=Blk.c2 (H.km.only hC.on (by simp only[List.mem_singleton];omega));simp[Region.wanted,Jg,go_sem,execOp,r37,hc,upT];exact⟨Only.refl _ _,rfl,hC.pure (by decide) (by decide) hcs⟩
     ·intro L a w' hL hl hall hC hR;have hcs: ∀p∈([(18,8),(18,17),(17,16),(16,15),(15,14),(14,13),(13,12),(12,10),(12,11),(10,9),(8,7),(7,6),(6,4),(6,5),(4,3),(19,1),(19,2),(1,0),(20,19)]:List (Nat×Nat)),p.1=11→L.getD p.2 false=true:=by
       intro p hp h1;simp only[List.mem_cons,List.not_mem_nil,or_false] at hp;rcases hp with rfl|rfl|rfl|rfl|rfl|rfl|rfl|rfl|rfl|rfl|rfl|rfl|rfl|rfl|rfl|rfl|rfl|rfl|rfl<;>exact absurd h1 (by decide)
      have r5:_=_:=hR 5 (by decide);simp[Region.wanted,Jg,go_sem,execOp,r5,upT];exact⟨Only.refl _ _,rfl,hC.pure (by decide) (by decide) hcs⟩
     ·intro L a w' hL hl hall hC hR;have hcs: ∀p∈([(18,8),(18,17),(17,16),(16,15),(15,14),(14,13),(13,12),(12,10),(12,11),(10,9),(8,7),(7,6),(6,4),(6,5),(4,3),(19,1),(19,2),(1,0),(20,19)]:List (Nat×Nat)),p.1=12→L.getD p.2 false=true:=by
       intro p hp h1;simp only[List.mem_cons,List.not_mem_nil,or_false] at hp;rcases hp with rfl|rfl|rfl|rfl|rfl|rfl|rfl|rfl|rfl|rfl|rfl|rfl|rfl|rfl|rfl|rfl|rfl|rfl|rfl<;>first|exact absurd h1 (by decide)|exact hall ⟨_,.data⟩ (by simp) (by decide)
      have r38:_=_:=hR 38 (by decide);have r39:_=_:=hR 39 (by decide);simp[Region.wanted,Jg,go_sem,execOp,r38,r39,↓IntWalk.iteOmega,k1,upT];exact⟨Only.refl _ _,rfl,hC.pure (by decide) (by decide) hcs⟩
     ·intro L a w' hL hl hall hC hR;have hcs: ∀p∈([(18,8),(18,17),(17,16),(16,15),(15,14),(14,13),(13,12),(12,10),(12,11),(10,9),(8,7),(7,6),(6,4),(6,5),(4,3),(19,1),(19,2),(1,0),(20,19)]:List (Nat×Nat)),p.1=13→L.getD p.2 false=true:=by
       intro p hp h1;simp only[List.mem_cons,List.not_mem_nil,or_false] at hp;rcases hp with rfl|rfl|rfl|rfl|rfl|rfl|rfl|rfl|rfl|rfl|rfl|rfl|rfl|rfl|rfl|rfl|rfl|rfl|rfl<;>first|exact absurd h1 (by decide)|exact hall ⟨_,.data⟩ (by simp) (by decide)
      have r40:_=_:=hR 40 (by decide);simp[Region.wanted,Jg,go_sem,execOp,r40,upT];exact⟨Only.refl _ _,rfl,hC.pure (by decide) (by decide) hcs⟩
     ·intro L a w' hL hl hall hC hR;have hcs: ∀p∈([(18,8),(18,17),(17,16),(16,15),(15,14),(14,13),(13,12),(12,10),(12,11),(10,9),(8,7),(7,6),(6,4),(6,5),(4,3),(19,1),(19,2),(1,0),(20,19)]:List (Nat×Nat)),p.1=14→L.getD p.2 false=true:=by
       intro p hp h1;simp only[List.mem_cons,List.not_mem_nil,or_false] at hp;rcases hp with rfl|rfl|rfl|rfl|rfl|rfl|rfl|rfl|rfl|rfl|rfl|rfl|rfl|rfl|rfl|rfl|rfl|rfl|rfl<;>first|exact absurd h1 (by decide)|exact hall ⟨_,.data⟩ (by simp) (by decide)
      have r41:_=_:=hR 41 (by decide);have hc:w'.cell? ⟨b,kk*3+2,none⟩=some (.slice (some ⟨gr,0,none⟩) m.Rz[kk].Fz.length rc'):=by rw[World.cell?_of_block (a:=⟨b,kk*3+2,none⟩) (hC.on.block b hbl' (by simp only[List.mem_singleton];omega))];exact qr
      simp[Region.wanted,Jg,go_sem,execOp,r41,hc,upT];exact⟨Only.refl _ _,rfl,hC.pure (by decide) (by decide) hcs⟩
     ·intro L a w' hL hl hall hC hR;have hcs: ∀p∈([(18,8),(18,17),(17,16),(16,15),(15,14),(14,13),(13,12),(12,10),(12,11),(10,9),(8,7),(7,6),(6,4),(6,5),(4,3),(19,1),(19,2),(1,0),(20,19)]:List (Nat×Nat)),p.1=15→L.getD p.2 false=true:=by
       intro p hp h1;simp only[List.mem_cons,List.not_mem_nil,or_false] at hp;rcases hp with rfl|rfl|rfl|rfl|rfl|rfl|rfl|rfl|rfl|rfl|rfl|rfl|rfl|rfl|rfl|rfl|rfl|rfl|rfl<;>first|exact absurd h1 (by decide)|exact hall ⟨_,.data⟩ (by simp) (by decide)
      have r42:_=_:=hR 42 (by decide);simp[Region.wanted,Jg,go_sem,execOp,r42,↓IntWalk.iteOmega,hp0,upT];exact⟨Only.refl _ _,rfl,hC.pure (by decide) (by decide) hcs⟩
     ·intro L a w' hL hl hall hC hR;have hcs: ∀p∈([(18,8),(18,17),(17,16),(16,15),(15,14),(14,13),(13,12),(12,10),(12,11),(10,9),(8,7),(7,6),(6,4),(6,5),(4,3),(19,1),(19,2),(1,0),(20,19)]:List (Nat×Nat)),p.1=16→L.getD p.2 false=true:=by
       intro p hp h1;simp only[List.mem_cons,List.not_mem_nil,or_false] at hp;rcases hp with rfl|rfl|rfl|rfl|rfl|rfl|rfl|rfl|rfl|rfl|rfl|rfl|rfl|rfl|rfl|rfl|rfl|rfl|rfl<;>first|exact absurd h1 (by decide)|exact hall ⟨_,.data⟩ (by simp) (by decide)
      have ha:L.getD 18 false=false:=Bool.eq_false_iff.2 fun e18=>by
       have e17:=hC.cl (18,17) (by decide) e18;have e16:=hC.cl (17,16) (by decide) e17;rw[e16] at hl;cases hl
      have hb:=hC.be ha;have r43:_=_:=hR 43 (by decide);have y0:=(hb.cell (p:=⟨gr,0,none⟩) hgl').trans u0;have y1:=(hb.cell (p:=⟨gr,1,none⟩) hgl').trans u1;have y2:=(hb.cell (p:=⟨gr,2,none⟩) hgl').trans u2;have y3:=(hb.cell (p:=⟨gr,3,none⟩) hgl').trans u3;simp[Region.wanted,Jg,go_sem,execOp,r43,y0,y1,y2,y3,upT];exact⟨Only.refl _ _,rfl,hC.pure (by decide) (by decide) hcs⟩
     ·intro L a w' hL hl hall hC hR;have hcs: ∀p∈([(18,8),(18,17),(17,16),(16,15),(15,14),(14,13),(13,12),(12,10),(12,11),(10,9),(8,7),(7,6),(6,4),(6,5),(4,3),(19,1),(19,2),(1,0),(20,19)]:List (Nat×Nat)),p.1=17→L.getD p.2 false=true:=by
       intro p hp h1;simp only[List.mem_cons,List.not_mem_nil,or_false] at hp;rcases hp with rfl|rfl|rfl|rfl|rfl|rfl|rfl|rfl|rfl|rfl|rfl|rfl|rfl|rfl|rfl|rfl|rfl|rfl|rfl<;>first|exact absurd h1 (by decide)|exact hall ⟨_,.data⟩ (by simp) (by decide)
      have ha:L.getD 18 false=false:=Bool.eq_false_iff.2 fun e18=>by
       have e17:=hC.cl (18,17) (by decide) e18;rw[e17] at hl;cases hl
      have hb:=hC.be ha;have r44:_=_:=hR 44 (by decide);simp[Region.wanted,Jg,go_sem,execOp,r44,upT];exact⟨(Only.refl _ _).alloc _,⟨_,rfl,by have:=hb.size;omega,Blk.new _ _ _⟩,hC.turn (by decide) ha hcs ((Only.refl _ _).alloc _) (hb.alloc hb.size _)⟩
     ·intro L a w' hL hl hall hC hR;have hcs: ∀p∈([(18,8),(18,17),(17,16),(16,15),(15,14),(14,13),(13,12),(12,10),(12,11),(10,9),(8,7),(7,6),(6,4),(6,5),(4,3),(19,1),(19,2),(1,0),(20,19)]:List (Nat×Nat)),p.1=18→L.getD p.2 false=true:=by
       intro p hp h1;simp only[List.mem_cons,List.not_mem_nil,or_false] at hp;rcases hp with rfl|rfl|rfl|rfl|rfl|rfl|rfl|rfl|rfl|rfl|rfl|rfl|rfl|rfl|rfl|rfl|rfl|rfl|rfl<;>first|exact absurd h1 (by decide)|exact hall ⟨_,.data⟩ (by simp) (by decide)
      have hb:=hC.be hl;obtain⟨bn,r45,hbn,hB⟩:FRow4 gr #[.string m.Rz[kk].Fz[0].name,.bool m.Rz[kk].Fz[0].guard,.int .i64 m.Rz[kk].Fz[0].count,.slice ta tn tc] _ _:=hR 45 (by decide);have r36:_=_:=hR 36 (by decide);have hown2:w'.ownsRow (w.heap.size+2) 52 4 (.slice (some ⟨gr,0,none⟩) m.Rz[kk].Fz.length rc') m.Rz[kk].Fz.length xs:=Yx hown hb
      obtain⟨v',w5,hr,hown',hgrow,_⟩:=run_append_own (P:=Tryz.prog) (w:=w') (w.heap.size+2) 46 46 52 i0 _ 4 56 Tryz.underlying46 hi0 hz0 hz1 hz2 rfl (by decide) _ _ _ hown2 ⟨bn,0,none⟩ 1 1 (#[.string m.Rz[kk].Fz[0].name,.bool m.Rz[kk].Fz[0].guard,.int .i64 m.Rz[kk].Fz[0].count,.slice ta tn tc]:Array Value).toList rfl (World.news_of_block hB.out) (by simp[Value.oneCell']) (by unfold maxLen;omega) (by omega) (by have:=hb.size;have:=H.kr.lt;omega)
      rw[if_pos (show Region.wanted _ _=true from rfl)];simp only[execOp,resolve,invoke,builtin,Sem.run_bind,Sem.run_pure,Result.andThen_ok,List.map_toArray,List.map_cons,List.map_nil,Wm,r36,r45,hr,upT];have hO5:Only [gr] w' w5:=⟨hgrow.os,hgrow.tape,hgrow.output,hgrow.size,fun k hk hn=>hgrow.block k hk fun e=>hn (by simp[Value.ownBlock] at e;simp[e])⟩
      exact⟨trivial,hO5,trivial,hC.hit hl (by rw[hL];decide) hcs hO5 hown'⟩
     ·intro L a w' hL hl hall hC hR;have hcs: ∀p∈([(18,8),(18,17),(17,16),(16,15),(15,14),(14,13),(13,12),(12,10),(12,11),(10,9),(8,7),(7,6),(6,4),(6,5),(4,3),(19,1),(19,2),(1,0),(20,19)]:List (Nat×Nat)),p.1=19→L.getD p.2 false=true:=by
       intro p hp h1;simp only[List.mem_cons,List.not_mem_nil,or_false] at hp;rcases hp with rfl|rfl|rfl|rfl|rfl|rfl|rfl|rfl|rfl|rfl|rfl|rfl|rfl|rfl|rfl|rfl|rfl|rfl|rfl<;>first|exact absurd h1 (by decide)|exact hall ⟨_,.data⟩ (by simp) (by decide)
      have r29:_=_:=hR 29 (by decide);have r30:_=_:=hR 30 (by decide);simp[Region.wanted,Jg,go_sem,execOp,r29,r30,↓IntWalk.iteOmega,k1,upT];exact⟨Only.refl _ _,rfl,hC.pure (by decide) (by decide) hcs⟩
     ·intro L a w' hL hl hall hC hR;have hcs: ∀p∈([(18,8),(18,17),(17,16),(16,15),(15,14),(14,13),(13,12),(12,10),(12,11),(10,9),(8,7),(7,6),(6,4),(6,5),(4,3),(19,1),(19,2),(1,0),(20,19)]:List (Nat×Nat)),p.1=20→L.getD p.2 false=true:=by
       intro p hp h1;simp only[List.mem_cons,List.not_mem_nil,or_false] at hp;rcases hp with rfl|rfl|rfl|rfl|rfl|rfl|rfl|rfl|rfl|rfl|rfl|rfl|rfl|rfl|rfl|rfl|rfl|rfl|rfl<;>first|exact absurd h1 (by decide)|exact hall ⟨_,.data⟩ (by simp) (by decide)
      have r47:_=_:=hR 47 (by decide);simp[Region.wanted,Jg,go_sem,execOp,r47,upT];exact⟨Only.refl _ _,rfl,hC.pure (by decide) (by decide) hcs⟩
    ·intro l w5 τ hall hC;have hO:=hC.on;have hA:=hC.af (hall 18 (by decide));simp only[List.take_succ_cons,List.take_zero,jdb];intro v28 _ v29 _ v30 _ v31 _ v32 _ v33 _ v34 _ v35 _ v36 _ v37 _ v38 _ v39 _ v40 _ v41 _ v42 _ v43 _ v44 _ v45 _ v46 _ v47 _ v48 h48 hτ;obtain rfl:v48= .pointer (some ⟨b,kk*3+2,none⟩):=h48;rw[show τ 46=v46 by rw[←hτ];simp[tau,Act.put]] at hA;clear hτ hC
     obtain⟨g4,cap4,rfl,_,_⟩:=jav hA (Nat.succ_pos _);obtain⟨hsetO,hrO,hal,hAP,hRx,q1',hcells',hf1n'⟩:=HH.out;have hX:Only [gr,b] w3 (w5.setCell ⟨b,kk*3+2,none⟩ (.slice (some ⟨g4,0,none⟩) (m.Rz[kk].Fz.length+1) cap4)):=(hO.more (M:=b)).setCell (p:=⟨b,kk*3+2,none⟩) (.inl (by simp)) _;have hfxr: ∀z∈fxs,z≠gr∧z≠b:=fun z hz=>⟨fun e=>hgrx (e▸hz),fun e=>hbf' (by rw[hfrO,hfx,←e];simp[hz])⟩
     have hAll:=(hAP.keep (w':=w5) fun z hz=>hO.block z (hAP.lt z hz) (by simpa using(hfxr z (hfP z hz)).1)).snoc (Rp.ref.keep (w':=w5) hRx fun z hz=>hO.block z (Rp.ref.lt hRx z hz) (by simpa using(hfxr z (hfP z (hfx2 z hz))).1));obtain⟨A',c',f',he4,hs4,hfb4, -, -⟩:=SlR.of_owns (r:=Rp.ref) (l:=m.Rz[kk].Fz++ [m.Rz[kk].Fz[0]]) (by rw[List.length_append];exact hA) hAll
     simp only[Value.slice.injEq] at he4;obtain⟨rfl, -,rfl⟩:=he4;have hcurb:Blk w5 b 48 cur:=(hO.block b hbl' (by simp only[List.mem_singleton];omega)).trans hcur;have hg4b: ∀z∈f',z≠b∧w.heap.size+1<z:=fun z hz=>⟨jho hA hcurb (by decide) (hfb4 z hz).1,by have:=(hfb4 z hz).2;omega⟩;have hbf4:b∉f'++(fP++fx):=fun hm=>by
      simp only[List.mem_append] at hm;rcases hm with hm|hm|hm
      ·exact(hg4b b hm).1 rfl
      ·exact(hfxr b (hfP b hm)).2 rfl
      ·exact(hfxr b (hfP b (hfx2 b hm))).2 rfl
     have hs6:=hs4.putN (b:=b) (j:=kk*3+2) hbf4 (.slice (some ⟨g4,0,none⟩) (m.Rz[kk].Fz.length+1) cap4);rw[List.length_append] at hs6;have hra6:=hrO.only hX (fun z hz=>by
      simp only[List.mem_cons,List.not_mem_nil,or_false,not_or];exact⟨fun e=>hgra (e▸hz),fun e=>hbf' (by rw[hfrO,←e];simp[hz])⟩)
     have hu6:=q1'.only hX (fun z hz=>by
      have:=hd1' z hz;simp only[List.mem_cons,List.not_mem_nil,or_false,not_or];exact⟨fun e=>this.2.2 (e▸hgrf),this.2.1⟩)
     have hoth: ∀j,j≠kk*3+2→(w5.setCell ⟨b,kk*3+2,none⟩ (.slice (some ⟨g4,0,none⟩) (m.Rz[kk].Fz.length+1) cap4)).cell? ⟨b,j,none⟩=w3.cell? ⟨b,j,none⟩:=fun j hj=>(World.cell?_setCell_other _ _ _ _ (by simp only[ne_eq,Addr.mk.injEq];omega)).trans (World.cell?_of_block (a:=⟨b,j,none⟩) (hO.block b hbl' (by simp only[List.mem_singleton];omega)))
     have q5:w5.cell? ⟨b,kk*3+2,none⟩=some (.slice (some ⟨gr,0,none⟩) m.Rz[kk].Fz.length rc'):=(World.cell?_of_block (a:=⟨b,kk*3+2,none⟩) (hO.block b hbl' (by simp only[List.mem_singleton];omega))).trans qr
     have hc6:Cells (w5.setCell ⟨b,kk*3+2,none⟩ (.slice (some ⟨g4,0,none⟩) (m.Rz[kk].Fz.length+1) cap4)) b (kk*3) [.int .i64 m.Rz[kk].Az,.slice Ra rna rca,(.slice (some ⟨g4,0,none⟩) (m.Rz[kk].Fz.length+1) cap4)]:=fun j u hu=>by
      rcases j with _|_|_|j
      ·rw[hoth _ (by omega)];cases hu;exact hcells' 0 _ rfl
      ·rw[hoth _ (by omega)];cases hu;exact hcells' 1 _ rfl
      ·cases hu;exact World.cell?_setCell_same w5 _ _ q5
      ·simp at hu
     obtain⟨fp',j1,j2⟩:=hsetO _ _ { m.Rz[kk] with Fz:=m.Rz[kk].Fz++ [m.Rz[kk].Fz[0]]} (rfa++(f'++(fP++fx))) m.used f1' (fun j hj=>hoth j (by omega)) (Nat.lt_of_lt_of_le hbl' hX.size) hc6 ⟨_,_,_,rfa,_,_,_,_,rfl,rfl,hra6,hs6⟩ hu6 (fun z hz hzb hzf hzu=>hX.block z (Rp.houseO.lt H.RO z hz) (by simp only[List.mem_cons,List.not_mem_nil,or_false,not_or];exact⟨fun e=>hzf (e▸hgrf),hzb⟩))
     have hlo: ∀z∈fp',w.heap.size+1<z:=fun z hz=>by
      rcases j2 z hz with hz|hz|hz
      ·exact H.lo z hz
      ·simp only[List.mem_append] at hz;rcases hz with hz|hz|hz|hz
       ·exact H.lo z (hsub' z (by rw[hfrO];simp[hz]))
       ·exact(hg4b z hz).2
       ·exact H.lo z (hsub' z (by rw[hfrO,hfx];simp[hfP z hz]))
       ·exact H.lo z (hsub' z (by rw[hfrO,hfx];simp[hfP z (hfx2 z hz)]))
      ·exact H.lo z (hd1' z hz).1
     have HB:=Ja (show BadR w g (P+8000) (w5.setCell ⟨b,kk*3+2,none⟩ (.slice (some ⟨g4,0,none⟩) (m.Rz[kk].Fz.length+1) cap4)) from
      ⟨_,_,_,_,_,_,_,_,_,_,fp',(H.rd.only hX (by simp;omega)).mono (by omega),H.on.then_low (hX.below (by simp;omega) H.on.size),H.km.only hX (by simp;omega),H.kr.only hX (by simp;omega),j1,hlo,jf6 (Jv hm.1) ⟨(Jv hm.1 kk hk).Uz,by have:=(Jv hm.1 kk hk).few;simp only[List.length_append,List.length_singleton];omega,fun i hi=>by
       by_cases h:i<m.Rz[kk].Fz.length
       ·show jey (m.Rz[kk].Fz++ [m.Rz[kk].Fz[0]])[i];rw[List.getElem_append_left h];exact(Jv hm.1 kk hk).Fz i h
       ·have hi':i<(m.Rz[kk].Fz++ [m.Rz[kk].Fz[0]]).length:=hi;have:i=m.Rz[kk].Fz.length:=by simp at hi';omega
        subst this;show jey (m.Rz[kk].Fz++ [m.Rz[kk].Fz[0]])[m.Rz[kk].Fz.length];simpa using(Jv hm.1 kk hk).Fz 0 hr0⟩,
       fun hk'=>absurd ((Jo.1 hk').2.2 _ (List.mem_iff_getElem.2 ⟨kk,by simpa using hk,by simp⟩)) fun h=>jok hr0 h⟩)
     have y5:=Ji hcurb (kk*3+2);clear hsetO hrO hal hAP hRx q1' hcells' hf1n' hX hAll hs4 hs6 hra6 hu6 hoth hc6 j1 j2 hA HH H hO hown;go_wp2_with fail;go_meet
     case rel=>exact HB.out
   ·have hp0: ¬(0:Int)<(m.Rz[kk].Fz.length:Int):=by omega
    have HB:=Ja (H.same hi);clear hset hE hRr hru hre hRp hnp hfp hlp hsp hff H;go_wp2_with fail;go_meet
    case rel=>exact HB.out.mono (by omega)
  case rest=>
   obtain⟨w5,hw5⟩: ∃w5,w5=wc:=⟨_,rfl⟩;subst hw5;clear H;have hb:=hcut;clear hcut;obtain⟨a0,k0,e0,a1,k1,e1,a2,k2,e2,km,kr,HF⟩:=hb.fin hg;have x0:=Blk.c0 km;have x1:=Blk.c1 km;have x2:=Blk.c2 km;have z0:=Blk.c0 kr;have z1:=Blk.c1 kr;have z2:=Blk.c2 kr;have y0:=Ji kr 0;have y1:=Ji kr 1;have y2:=Ji kr 2;have HX:=Ja HF;clear HF km kr hb;go_wp2;obtain⟨k2,x,f,hR,hl,hf,hk,hr,hon⟩:=HX.out
   exact bodyPost_ret (v:= .agg #[.slice a0 k0 e0,.slice a1 k1 e1,.slice a2 _ e2]) (results_cell_row rfl _ _ (w.heap.size+1) _ _ (0,0) _ rfl k2.out Tryz.underlying26 rfl jd6) rfl ⟨x,_,f,rfl,hR,hl,hf,hk,hr.mono (by omega),hon⟩
end Go.Proofs.YtobbdhgkcoeifaaGreatDoor
