/- FnMdlName: for every input the law answers true and leaves its arguments as they were. Conditions: the listed library tables read as the tie says. -/
import Derived.ProofKit
import Derived.Deep.Slices
import Derived.Deep.Fields
import Derived.WalkKit
import Derived.OpenShut
import Derived.ChangeMaps5
import Derived.Deep.DeepHandedRow
import Derived.Lib.LaidTab
import Derived.SevenTiedAt
import Derived.Test.YtlkoaobaoffpaaaGreatDoorZ2
import Derived.Test.YtlkoaobaoffpaaaGreatDoorZ3
import Derived.Test.YtlkoaobaoffpaaaGreatDoorZ6
import Derived.Test.YtlkoaobaoffpaaaGreatDoorZ7
import Derived.Test.YtlkoaobaoffpaaaGreatDoorZ34
import Derived.Test.YtlkoaobaoffpaaaGreatDoorZ29
import Derived.Test.YtlkoaobaoffpaaaGreatDoorZ23
import Derived.Test.YtlkoaobaoffpaaaGreatDoorZ8
import Derived.Test.YtlkoaobaoffpaaaGreatDoorZ35
import Derived.Test.YtlkoaobaoffpaaaGreatDoorZ19
import Derived.Test.YtlkoaobaoffpaaaGreatDoorZ1
import Derived.Test.YtlkoaobaoffpaaaGreatDoorCards
import Derived.Test.YtlkoaobaoffpaaaGreatDoorTie
namespace Go.Proofs.YtlkoaobaoffpaaaGreatDoor
open Go.RowKit
attribute [local go_sem ↓] Go.wp_at_zero Go.wp_at_succ
open Go.ChangeShapes Go.WideShapes Go.ChangeAt Go.RowKit Go.Deep
set_option maxHeartbeats 8000000
set_option maxRecDepth 100000
set_option linter.unusedSimpArgs false
set_option linter.unusedVariables false
def mdlFiles (m:Jl) (repo:Int) (name:ByteArray) (back:Int):Option (List File):=if Ys m then Xn m repo name back else none
def FilesOwn (w:World) (o:Option (List File)) (e:Ending) (w':World):Prop:=
 ∃v,e= .returned (.tuple #[v,.bool o.isSome])∧w'.ownsRow w.heap.size 98 2 v (o.getD []).length ((o.getD []).flatMap Jj)∧Below w.heap.size w w'
theorem mdlFiles_ok {m:Jl} {repo back:Int} {name:ByteArray} (hm:Ys m=true):mdlFiles m repo name back=Xn m repo name back:=if_pos hm
theorem mdlFiles_no {m:Jl} {repo back:Int} {name:ByteArray} (hm:Ys m=false):mdlFiles m repo name back=none:=if_neg (by simp[hm])
theorem implMdlFiles_any {cs:List Value} {x:Jl} {fx:List Nat} (repo:Int) (name:ByteArray) (back:Int) (hb1:back≤9223372036854775807) (w:World) (hx:Rp.house.R w cs x fx) (hf:V9 x):
  Calls Tryz.prog 27 #[.agg cs.toArray,.int .i64 repo,.string name,.int .i64 back] w (FilesOwn w (mdlFiles x repo name back)):=by
 have hx0:=hx;obtain⟨A0,n0,c0,f0,A1,n1,c1,f1,A2,n2,c2,f2,rfl,hff,h0,h1,h2⟩:=hx;have RH:=Ja (fun(W:World) (hb:Below w.heap.size w W)=>Rp.house.below hx0 hb nle);have HF:=Ja hf;clear hx0 h0 h1 h2 hff hf;have kb:=Blk.new w 26 #[.slice A0 n0 c0,.slice A1 n1 c1,.slice A2 n2 c2];have HB:=(Below.refl w.heap.size w).alloc nle (.cells #[.slice A0 n0 c0,.slice A1 n1 c1,.slice A2 n2 c2] 26)
 go_enter Tryz.func27,Tryz.ntmps27;go_wp2_with fail;refine(jhy (x:=x) _ (RH.out _ HB) HF.out).mono ?_;rintro e w1 ⟨rfl,hb⟩;replace kb:=kb.step hb;replace HB:=Below.t HB hb;clear hb;cases hd:Ys x
 ·have HV:=Ja (mdlFiles_no (repo:=repo) (name:=name) (back:=back) hd);clear hd;go_wp2
  go_ret2
  rw[HV.out];exact⟨_,rfl,World.ownsRow_nil _ _ _ _,HB⟩
 ·have HV:=Ja (mdlFiles_ok (repo:=repo) (name:=name) (back:=back) hd);have HL:=Ja (jk5 (repo:=repo) (name:=name) (back:=back) hd);clear hd;have u0:=Blk.c0 kb;have u1:=Blk.c1 kb;have u2:=Blk.c2 kb;go_wp2_with fail;refine(jo3 (x:=x) repo name back hb1 _ (RH.out _ HB)).mono ?_;rintro e w2 ⟨A4,n4,c4,f4,rfl,hs4,_,hb⟩;replace HB:=Below.t HB hb;clear hb u0 u1 u2 kb;go_wp2_with fail
  refine(Xk _ hs4 (Nat.le_trans HL.out (by decide))).mono ?_;rintro e w3 ⟨v,rfl,hown,hb⟩;have HO:=Ja (Zy hown HB.size);replace HB:=Below.t HB hb;clear hown hb hs4;go_wp2
  go_ret2
  rw[HV.out];exact⟨_,rfl,HO.out,HB⟩
section
variable {w w':World} {g:Nat} {m:Jl} {q:Req} {a:Ans} {K U R E F N:Value}
end
theorem HB.Rz {w:World} {g:Nat} {m:Jl} {K U:Value} {A:Option Addr} {n c:Nat} (h:HB w g m K U (.slice A n c)): ∃f,SlR Rp.repo w A n c m.Rz f:=by
 obtain⟨f,A0,n0,c0,f0,A1,n1,c1,f1,A2,n2,c2,f2,e, -, -, -,h2⟩:=h.r;cases e;exact⟨f2,h2⟩
theorem HB.keys {w:World} {g:Nat} {m:Jl} {U R:Value} {A:Option Addr} {n c:Nat} (h:HB w g m (.slice A n c) U R): ∃f,SlR Rp.int w A n c m.keys f:=by
 obtain⟨f,A0,n0,c0,f0,A1,n1,c1,f1,A2,n2,c2,f2,e, -,h2, -, -⟩:=h.r;cases e;exact⟨f0,h2⟩
theorem req_with {w:World} {q q':Req} {E:Value} {f:List Nat} (h:Rp.req.R w (V5 q E).toList q f) (he:q'.Ez=q.Ez):Rp.req.R w (V5 q' E).toList q' f:=by
 obtain⟨A0,n0,c0,f0,e,hf,h1⟩:=h;have:E= .slice A0 n0 c0:=by
  have:=congrArg (fun l=>l[8]?) e;simpa [V5] using this
 subst this;exact⟨A0,n0,c0,f0,rfl,hf,he▸h1⟩
theorem fit_with {q q':Req} (h:jdu q) (h1:q'.ref=q.ref) (h2:q'.other=q.other) (h3:q'.path=q.path) (h4:q'.rule=q.rule) (h5:q'.Ez=q.Ez):jdu q':=
 ⟨by rw[h1];exact h.ref,by rw[h2];exact h.other,by rw[h3];exact h.path,by rw[h4];exact h.rule,by rw[h5];exact h.Ez⟩
section
variable {P:Program} {s:Code} {Q:Exit→Act→World→Prop} {b:Act} {w:World} {m:Jl} {q:Req} {a:Ans} {K U R E F N:Value}
end
structure HQ (w0 W:World) (m:Jl) (q:Req) (K U R E:Value):Prop where
 on:Below w0.heap.size w0 W
 km:Blk W w0.heap.size 26 #[K,U,R]
 kq:Blk W (w0.heap.size+1) 31 (V5 q E)
 rm: ∃f,Rp.house.R W [K,U,R] m f∧∀z∈f,z<w0.heap.size
 rq: ∃f,Rp.req.R W (V5 q E).toList q f∧∀z∈f,z<w0.heap.size
section
variable {w0 W W':World} {m:Jl} {q q':Req} {K U R E E':Value}
theorem HQ.hb (h:HQ w0 W m q K U R E):HB W w0.heap.size m K U R:=⟨h.km,h.rm.imp fun _ k=>k.1⟩
theorem HQ.qb (h:HQ w0 W m q K U R E):QB W (w0.heap.size+1) q E:=⟨h.kq,h.rq.imp fun _ k=>k.1⟩
theorem HQ.step (h:HQ w0 W m q K U R E) (hb:Below W.heap.size W W'):HQ w0 W' m q K U R E:=
 ⟨Below.t h.on hb,h.km.step hb,h.kq.step hb,h.rm.imp fun _ k=>⟨Rp.house.below k.1 hb nle,k.2⟩,h.rq.imp fun _ k=>⟨Rp.req.below k.1 hb nle,k.2⟩⟩
theorem HQ.frz (h:HQ w0 W m q K U R E) (i:Nat):W.frozen? ⟨w0.heap.size+1,i,none⟩=false:=Jb h.kq i
theorem HQ.put (h:HQ w0 W m q K U R E) {i:Nat} {v:Value} (e:(V5 q E).setIfInBounds i v=V5 q' E') (hQ: ∃f,Rp.req.R W (V5 q' E').toList q' f∧∀z∈f,z<w0.heap.size):HQ w0 (W.setCell ⟨w0.heap.size+1,i,none⟩ v) m q' K U R E':=by
 have hk: ∀z,z<w0.heap.size→(W.setCell ⟨w0.heap.size+1,i,none⟩ v).heap[z]? =W.heap[z]? :=fun z hz=>Below.heap_setCell _ _ _ _ (by rintro rfl;simp at hz;omega);refine⟨h.on.setCell (by simp) _,(Below.heap_setCell _ _ _ _ (by simp)).trans h.km,e▸h.kq.put i v,h.rm.imp fun _ k=>⟨Rp.house.keep k.1 fun z hz=>hk z (k.2 z hz),k.2⟩,hQ.imp fun _ k=>⟨Rp.req.keep k.1 fun z hz=>hk z (k.2 z hz),k.2⟩⟩
theorem HQ.same (h:HQ w0 W m q K U R E) {i:Nat} {v:Value} (e:(V5 q E).setIfInBounds i v=V5 q' E) (he:q'.Ez=q.Ez):HQ w0 (W.setCell ⟨w0.heap.size+1,i,none⟩ v) m q' K U R E:=
 h.put e (h.rq.imp fun _ k=>⟨req_with k.1 he,k.2⟩)
end
theorem wp_HQx {P:Program} {s:Code} {Q:Exit→Act→World→Prop} {b:Act} {w:World} {m:Jl} {q:Req} {K U R E:Value} (hR: ∃f,Rp.house.R w [K,U,R] m f) (hQ: ∃f,Rp.req.R w (V5 q E).toList q f) (h: ∀W,HQ w W m q K U R E→s.wp P Q b W):
  s.wp P Q b ((w.alloc (.cells #[K,U,R] 26)).alloc (.cells (RA q E) 31)):=by
 obtain⟨h1,h2,h3⟩:=Blk.two w 26 31 #[K,U,R] (V5 q E);exact h _ ⟨h3,h1,h2,hR.imp fun _ k=>⟨Rp.house.below k h3 nle,Rp.house.lt k⟩,hQ.imp fun _ k=>⟨Rp.req.below k h3 nle,Rp.req.lt k⟩⟩
structure HBn (w:World) (g:Nat) (m:Jl) (K U R:Value) (lo:Nat):Prop where
 k:Blk w g 26 #[K,U,R]
 r: ∃f,Rp.house.R w [K,U,R] m f∧∀z∈f,lo≤z
section
variable {w w':World} {g lo:Nat} {m:Jl} {K U R:Value}
theorem HBn.hb (h:HBn w g m K U R lo):HB w g m K U R:=⟨h.k,h.r.imp fun _ k=>k.1⟩
theorem HBn.step (h:HBn w g m K U R lo) (hb:Below w.heap.size w w'):HBn w' g m K U R lo:=⟨h.k.step hb,h.r.imp fun _ k=>⟨Rp.house.below k.1 hb nle,k.2⟩⟩
theorem HBn.only (h:HBn w g m K U R lo) {q:Nat} (ho:Only [q] w w') (hg:q<g) (hq:q<lo):HBn w' g m K U R lo:=
 ⟨h.k.only ho (by simp;omega),h.r.imp fun f k=>⟨Rp.house.keep k.1 fun z hz=>ho.block z (Rp.house.lt k.1 z hz) (by have:=k.2 z hz;simp;omega),k.2⟩⟩
end
theorem Done.partsn {w w':World} {o:Jl×Ans} {x:Jl} {a:Ans} {e:Ending} (h:Done w o e w') (ho:o=(x,a)): ∃A0 n0 c0 A1 n1 c1 A2 c2 B0 k0 d0 B1 k1 d1,e= .returned (.tuple #[.agg #[.slice A0 n0 c0,.slice A1 n1 c1,.slice A2 x.Rz.length c2],.agg #[.int .i64 a.code,.slice B0 k0 d0,.slice B1 k1 d1,.int .i64 a.n]])∧(∃f,Rp.house.R w' [.slice A0 n0 c0,.slice A1 n1 c1,.slice A2 x.Rz.length c2] x f∧∀z∈f,w.heap.size≤z)∧(∃f,Rp.ans.R w' [.int .i64 a.code,.slice B0 k0 d0,.slice B1 k1 d1,.int .i64 a.n] a f)∧Below w.heap.size w w':=by
 subst ho;obtain⟨ch,av,f,g,rfl,hR,hA, -,hlo, -,hb⟩:=h;obtain⟨A0,n0,c0,f0,A1,n1,c1,f1,A2,n2,c2,f2,rfl, -, -, -,h2⟩:=id hR;obtain⟨B0,k0,d0,g0,B1,k1,d1,g1,rfl, -⟩:=id hA;obtain rfl:=h2.1;exact⟨A0,n0,c0,A1,n1,c1,A2,c2,B0,k0,d0,B1,k1,d1,rfl,⟨f,hR,fun z hz=>hlo z (List.mem_append_left _ hz)⟩,⟨g,hA⟩,hb⟩
theorem wp_HAn {P:Program} {s:Code} {Q:Exit→Act→World→Prop} {b:Act} {w:World} {m:Jl} {a:Ans} {K U R F N:Value} {lo:Nat} (hR: ∃f,Rp.house.R w [K,U,R] m f∧∀z∈f,lo≤z) (hA: ∃f,Rp.ans.R w [.int .i64 a.code,F,N,.int .i64 a.n] a f) (h: ∀W,HBn W w.heap.size m K U R lo→AB W (w.heap.size+1) a F N→Below w.heap.size w W→s.wp P Q b W):
  s.wp P Q b ((w.alloc (.cells #[K,U,R] 26)).alloc (.cells #[.int .i64 a.code,F,N,.int .i64 a.n] 45)):=by
 obtain⟨h1,h2,h3⟩:=Blk.two w 26 45 #[K,U,R] #[.int .i64 a.code,F,N,.int .i64 a.n];exact h _ ⟨h1,hR.imp fun _ k=>⟨Rp.house.below k.1 h3 nle,k.2⟩⟩ ⟨h2,hA.imp fun _ k=>Rp.ans.below k h3 nle⟩ h3
theorem implFiles_some {w:World} {g:Nat} {m:Jl} {K U R:Value} {l:List File} (h:HB w g m K U R) (hf:V9 m) (repo:Int) (name:ByteArray) (back:Int) (hb:back≤9223372036854775807) (ho:mdlFiles m repo name back=some l):
  Calls Tryz.prog 27 #[.agg #[K,U,R],.int .i64 repo,.string name,.int .i64 back] w fun e w'=>∃A c f,e= .returned (.tuple #[.slice A l.length c,.bool true])∧SlR Rp.file w' A l.length c l f∧Below w.heap.size w w':=
 (implMdlFiles_any repo name back hb w h.r.choose_spec hf).mono fun e w' ⟨v,h1,h2,h3⟩=>by
  rw[ho] at h1 h2;simp only[Option.getD_some,Option.isSome_some] at h1 h2;obtain⟨A,c,f,rfl,hs, -⟩:=Xw (k:=2) (enc:=Jj) (hk:=fun _=>rfl) (h1:=Vz) h2;exact⟨A,c,f,h1,hs,h3⟩
theorem implFiles_none {w:World} {g:Nat} {m:Jl} {K U R:Value} (h:HB w g m K U R) (hf:V9 m) (repo:Int) (name:ByteArray) (back:Int) (hb:back≤9223372036854775807) (ho:mdlFiles m repo name back=none):
  Calls Tryz.prog 27 #[.agg #[K,U,R],.int .i64 repo,.string name,.int .i64 back] w fun e w'=>∃A c,e= .returned (.tuple #[.slice A 0 c,.bool false])∧Below w.heap.size w w':=
 (implMdlFiles_any repo name back hb w h.r.choose_spec hf).mono fun e w' ⟨v,h1,h2,h3⟩=>by
  rw[ho] at h1 h2;simp only[Option.getD_none,Option.isSome_none] at h1 h2;obtain⟨A,c,f,rfl,hs, -⟩:=Xw (l:=[]) (k:=2) (enc:=Jj) (hk:=fun _=>rfl) (h1:=Vz) h2;exact⟨A,c,h1,h3⟩
theorem manage_same {p:Xq} {r:Req} (h:(manage p r).2≠1):(manage p r).1=p:=by
 have:(manage p r).1=p∨(manage p r).2=1:=by
  unfold manage
  repeat' split
  all_goals first|exact .inl rfl|exact .inr rfl
 exact this.resolve_right h
theorem write_same {m:Jl} {p:Xq} {r:Req} (h:(write m p r).2≠1):(write m p r).1=m:=by
 have:(write m p r).1=m∨(write m p r).2=1:=by
  unfold write
  repeat' split
  all_goals first|exact .inl rfl|exact .inr rfl
 exact this.resolve_right h
theorem set_self {α:Type} {l:List α} {i:Nat} {a:α} (h:l[i]? =some a):l.set i a=l:=by
 obtain⟨hi,rfl⟩:=List.getElem?_eq_some_iff.1 h;exact List.set_getElem_self hi
theorem refused {m:Jl} {r:Req} (h:(Zn m r).2.code≠1∨r.kind=2∨r.kind=3∨r.kind=11):(Zn m r).1=m:=by
 unfold Zn at h ⊢;split
 ·split
  ·rfl
  ·split
   ·rfl
   ·rename_i p hp
    split
    ·rfl
    ·split
     ·rfl
     ·rename_i n1 n2 n3
      split
      ·rename_i hw
       refine write_same ?_;rcases h with h|h|h|h
       ·simpa [*,code] using h
       all_goals simp_all
      ·split
       ·rfl
       ·rename_i hk
        have:(manage p r).1=p:=by
         refine manage_same ?_;rcases h with h|h|h|h
         ·simpa [*,code] using h
         all_goals simp_all
        rw[this];simp[set_self hp]
 ·rfl
structure Laid (m:Jl) (r:Req) (p:Xq) (k:Nat):Prop where
 knows:knows m.keys r.user r.key=true
 writes:Vs r=true
 repo:m.Rz[r.repo.toNat]? =some p
 ref:Y7 p.Fz r.ref=some k
 may:Yi m p r=true
 old:(p.Fz.getD k Y8).count=r.old
 more:(p.Fz.getD k Y8).count≠14
 new:(newest m (p.Fz.getD k Y8) r).2=1
 used:m.used.getD (r.user - 1).toNat 0+Yg r.Ez≤200
 eq:Zn m r=(jpm m p k r (newest m (p.Fz.getD k Y8) r).1,code 1)
structure Managed1 (m:Jl) (r:Req) (p:Xq):Prop where
 knows:knows m.keys r.user r.key=true
 writes:Vs r=false
 kind:r.kind≠2∧r.kind≠3∧r.kind≠11
 repo:m.Rz[r.repo.toNat]? =some p
 Az:r.user=p.Az
 done:(manage p r).2=1
 eq:Zn m r=({ m with Rz:=m.Rz.set r.repo.toNat (manage p r).1},code 1)
theorem write_ways (m:Jl) (p:Xq) (r:Req):((write m p r).1=m∧(write m p r).2≠1)∨∃k,Y7 p.Fz r.ref=some k∧Yi m p r=true∧(p.Fz.getD k Y8).count=r.old∧(p.Fz.getD k Y8).count≠14∧(newest m (p.Fz.getD k Y8) r).2=1∧m.used.getD (r.user - 1).toNat 0+Yg r.Ez≤200∧write m p r=(jpm m p k r (newest m (p.Fz.getD k Y8) r).1,1):=by
 unfold write;split
 ·rename_i hm
  split
  ·exact .inl ⟨rfl,by simp⟩
  ·rename_i k hk
   split
   ·exact .inl ⟨rfl,by simp⟩
   ·rename_i h1
    split
    ·exact .inl ⟨rfl,by simp⟩
    ·rename_i h2
     split
     ·rename_i h3
      exact .inl ⟨rfl,h3⟩
     ·rename_i h3
      split
      ·exact .inl ⟨rfl,by simp⟩
      ·rename_i h4
       exact .inr ⟨k,hk,hm,Classical.not_not.1 h1,h2,Classical.not_not.1 h3,by omega,rfl⟩
 ·exact .inl ⟨rfl,by simp⟩
theorem doIt_none {m:Jl} {r:Req} (hp:m.Rz[r.repo.toNat]? =none) (hk:knows m.keys r.user r.key=true) (h11:r.kind≠11):Zn m r=(m,code 3):=by
 unfold Zn;rw[if_pos hk,if_neg h11,hp]
theorem doIt_writes {m:Jl} {r:Req} {p:Xq} (hk:knows m.keys r.user r.key=true) (hp:m.Rz[r.repo.toNat]? =some p) (hw:Vs r=true):Zn m r=((write m p r).1,code (write m p r).2):=by
 have h:r.kind=1∨r.kind=9∨r.kind=10:=by simpa [Vs,or_assoc] using hw
 unfold Zn;rw[if_pos hk,if_neg (by omega),hp];simp only[hw];rw[if_neg (by omega),if_neg (by omega)];rfl
theorem doIt_rest {m:Jl} {r:Req} {p:Xq} (hk:knows m.keys r.user r.key=true) (hp:m.Rz[r.repo.toNat]? =some p) (hw:Vs r=false) (h:r.kind≠2∧r.kind≠3∧r.kind≠11):
  Zn m r=if r.user≠p.Az then(m,code 4) else({ m with Rz:=m.Rz.set r.repo.toNat (manage p r).1},code (manage p r).2):=by
 unfold Zn;rw[if_pos hk,if_neg h.2.2,hp];simp only[hw];rw[if_neg h.1,if_neg h.2.1];rfl
theorem doIt_ways (m:Jl) (r:Req):((Zn m r).1=m∧((Zn m r).2.code=1→r.kind=2∨r.kind=3∨r.kind=11))∨(∃p k,Laid m r p k)∨∃p,Managed1 m r p:=by
 by_cases ht:r.kind=2∨r.kind=3∨r.kind=11
 ·exact .inl ⟨refused (.inr ht),fun _=>ht⟩
 ·by_cases hk:knows m.keys r.user r.key=true
  ·cases hp:m.Rz[r.repo.toNat]? with
   |none=>left;rw[doIt_none hp hk (by omega)];exact⟨rfl,fun h=>by simp[code] at h⟩
   |some p=>
    cases hw:Vs r
    ·have he:=doIt_rest hk hp hw (by omega);by_cases ha:r.user=p.Az
     ·rw[if_neg (by simpa using ha)] at he;by_cases hd:(manage p r).2=1
      ·exact .inr (.inr ⟨p,hk,hw,by omega,hp,ha,hd,by rw[he,hd]⟩)
      ·left;rw[he,manage_same hd];exact⟨by simp[set_self hp],fun h=>absurd h hd⟩
     ·rw[if_pos (by simpa using ha)] at he;left;rw[he];exact⟨rfl,fun h=>by simp[code] at h⟩
    ·have he:=doIt_writes hk hp hw;rcases write_ways m p r with ⟨h,h'⟩|⟨k,a,b,c,d,e,f,g⟩
     ·left;rw[he];exact⟨h,fun h=>absurd h h'⟩
     ·exact .inr (.inl ⟨p,k,hk,hw,hp,a,b,c,d,e,f,by rw[he,g]⟩)
  ·left;unfold Zn;rw[if_neg hk];exact⟨rfl,fun h=>by simp[code] at h⟩
theorem reqOk_set {r:Req} (h:Yw r=true) {k:Int} (h1:1≤k) (h2:k≤11):Yw { r with kind:=k} =true:=by
 simp only[Yw,Bool.and_eq_true] at h ⊢;refine⟨⟨⟨⟨⟨⟨⟨?_, ?_⟩, ?_⟩, ?_⟩, ?_⟩, ?_⟩, ?_⟩, ?_⟩
 all_goals first|exact jap.2 ⟨h1,h2⟩|simp_all
theorem repo_of {m:Jl} (hm:Ys m=true) {i:Nat} {p:Xq} (hp:m.Rz[i]? =some p):repoOk m.keys.length p=true:=(Jo.1 hm).2.2 p (List.mem_of_getElem? hp)
theorem files_at {m:Jl} {r:Req} {p:Xq} {k:Nat} (hp:m.Rz[r.repo.toNat]? =some p) (hx:Y7 p.Fz r.ref=some k) (hr:0≤r.repo) (back:Int):Xn m r.repo r.ref back=version (p.Fz.getD k Y8).Vz back:=by
 unfold Xn;rw[if_pos hr,hp];simp only[hx]
theorem ins_idx {l:List Ref} {y:Ref} {lt:Ref→Bool} (h: ∀x∈l,x.name≠y.name):Y7 (Zm lt y l) y.name=some (l.takeWhile lt).length∧(Zm lt y l).getD (l.takeWhile lt).length Y8=y∧(Zm lt y l).eraseIdx (l.takeWhile lt).length=l:=by
 unfold Zm;refine⟨?_, ?_, ?_⟩
 ·unfold Y7;rw[List.findIdx?_append];have:(l.takeWhile lt).findIdx? (fun x=>decide (x.name=y.name))=none:=by
   rw[List.findIdx?_eq_none_iff];exact fun x hx=>by simpa using h x (List.takeWhile_subset _ hx)
  rw[this];simp[List.findIdx?_cons]
 ·rw[List.getD_eq_getElem?_getD,List.getElem?_append_right nle];simp
 ·rw[List.eraseIdx_append_of_length_le nle];simp
theorem named {m:Jl} {r:Req} (hm:Ys m=true) (hr:Yw r=true) (h6:r.kind=6) (hc:(Zn m r).2.code=1):
  mdlFiles (Zn m r).1 r.repo r.ref 0=some []∧mdlFiles (Zn m r).1 r.repo r.ref 1=none∧(Zn (Zn m r).1 r).2.code=7∧Zn (Zn m r).1 { r with kind:=7} =(m,code 1):=by
 have hr0:=(jmn hr).2.1.1;have hx:=jh2 hm hr;have hf: ∀ {x:Jl} {i b:Int} {n:ByteArray},Ys x=true→mdlFiles x i n b=Xn x i n b:=fun hx=>by unfold mdlFiles;rw[if_pos hx]
 rcases doIt_ways m r with ⟨-,h⟩|⟨p,k,h⟩|⟨p,h⟩
 ·have:=h hc;omega
 ·have:=h.writes;simp[Vs,h6] at this
 ·have hi:=(List.getElem?_eq_some_iff.1 h.repo).1;have hd:=h.done;have he:=h.eq;obtain⟨hmg,hnone⟩:manage p r=({ p with Fz:=Zm (fun x=>bLt x.name r.ref) ⟨r.ref,false,0,[[]]⟩ p.Fz},1)∧Y7 p.Fz r.ref=none:=by
   unfold manage at hd ⊢;rw[if_neg (by omega),if_neg (by omega)] at hd ⊢;cases e:Y7 p.Fz r.ref with
   |some k=>rw[e] at hd;simp[h6] at hd
   |none=>
    rw[e] at hd;simp only[h6,if_true] at hd ⊢;split at hd
    ·simp at hd
    ·rename_i g1
     split at hd
     ·simp at hd
     ·rename_i g2
      exact⟨by rw[if_neg g1,if_neg g2],by first|rfl|trivial⟩
  rw[hmg] at he;obtain⟨j1,j2,j3⟩:=ins_idx (l:=p.Fz) (y:=⟨r.ref,false,0,[[]]⟩) (lt:=fun x=>bLt x.name r.ref) (jl8 (key:=Ref.name) hnone);have hxr:(Zn m r).1.Rz[r.repo.toNat]? =some { p with Fz:=Zm (fun x=>bLt x.name r.ref) ⟨r.ref,false,0,[[]]⟩ p.Fz} :=by
   rw[he];simp only;rw[List.getElem?_set_self hi]
  have hkx:knows (Zn m r).1.keys r.user r.key=true:=by rw[he];exact h.knows
  refine⟨?_, ?_, ?_, ?_⟩
  ·rw[hf hx,files_at hxr j1 hr0,j2];rfl
  ·rw[hf hx,files_at hxr j1 hr0,j2];rfl
  ·rw[doIt_rest hkx hxr h.writes h.kind,if_neg (by simpa using h.Az)];unfold manage;rw[if_neg (by omega),if_neg (by omega),j1];simp only[h6,if_true];rfl
  ·have:Zn (Zn m r).1 { r with kind:=7} =_:=doIt_rest (r:= { r with kind:=7}) hkx hxr (by rfl) (by simp);rw[this,if_neg (by simpa using h.Az)];have hm7:manage { p with Fz:=Zm (fun x=>bLt x.name r.ref) ⟨r.ref,false,0,[[]]⟩ p.Fz} { r with kind:=7} =(p,1):=by
    unfold manage;rw[if_neg (by simp),if_neg (by simp),j1];simp only;rw[j2,j3];simp
   rw[hm7,he];simp only[List.set_set];rw[set_self h.repo]
theorem lawName (w:World) {A:Option Addr} {n c:Nat} {code:List UInt8} {fp:List Nat} (hx:SlR Rp.byte w A n c code fp):
  Calls Tryz.prog 12 #[.slice A n c] w fun e w'=>e= .returned (.bool true)∧Below w.heap.size w w':=by
 obtain⟨rfl,hcx,hmx, -⟩:=id hx;unfold maxLen at hmx;go_enter Tryz.func12,Tryz.ntmps12;by_cases hlen:(1048576:Int)<(code.length:Int)
 ·go_wp2;go_ret;exact⟨rfl,Below.refl _ _⟩
 go_wp2_with fail;refine(jp5 _ hx).mono ?_;rintro e w1 ⟨m,q,A0,n0,c0,A1,n1,c1,A2,n2,c2,A3,c3,f,fq,rfl,hR,hQ,hok,hsm, -, -,HB⟩;clear hx;obtain rfl:n2=m.Rz.length:=by
  obtain⟨_,_,_,_,_,_,_,_,_,_,_,_,he, -, -, -,h2⟩:=hR;cases he;exact h2.1
 go_upto_region 4 with fail
 refine wp_HQx ⟨_,hR⟩ ⟨_,hQ⟩ ?_;intro w2 H;have hf:=Ja (And.intro hok.1 (jo1 hsm));have HOKD:=Ja hok;clear hR hQ hok;have HS:=Ja hsm;clear hsm
 go_cut [44] from 25 to 44 (fun v wx=>v= .bool (decide (Ys m=true∧0≤q.repo∧q.repo<(m.Rz.length:Int)∧0<q.user))∧HQ w1 wx m q (.slice A0 n0 c0) (.slice A1 n1 c1) (.slice A2 m.Rz.length c2) (.slice A3 q.Ez.length c3))
 case first=>
  obtain⟨x0,x1,x2⟩:=H.hb.cells;go_wp2_with fail;refine(jhe _ H.hb.r.choose_spec hf.out.1).mono ?_;rintro e w3 ⟨rfl,hb3⟩;replace H:=H.step hb3;clear hb3 x0 x1 x2;obtain⟨-, -,x2⟩:=H.hb.cells;obtain⟨q0, -,q2, -⟩:=H.qb.cells;cases hmo:Ys m
  ·go_wp2_with fail;go_meet
   case rel=>exact⟨by simp[hmo],H⟩
  ·go_wp2_with fail
   all_goals
    go_meet
    case rel=>exact⟨by rw[Value.bool.injEq,Bool.eq_iff_iff];simp[hmo];(try intros);omega,H⟩
 case rest=>
  obtain⟨w4,hw4⟩: ∃w4,w4=wc:=⟨_,rfl⟩;subst hw4;clear H;obtain⟨rfl,H⟩:=hcut;go_upto_if 44 with fail
  go_cut [] from 44 to 67 (fun wx=>∃r,HQ w1 wx m r (.slice A0 n0 c0) (.slice A1 n1 c1) (.slice A2 m.Rz.length c2) (.slice A3 q.Ez.length c3)∧jdu r)
  case first=>
   by_cases hc:Ys m=true∧0≤q.repo∧q.repo<(m.Rz.length:Int)∧0<q.user;rotate_left
   ·rw[decide_eq_false hc];go_wp2_with fail;go_meet
    case rel=>exact⟨q,H,hf.out.2⟩
   ·rw[decide_eq_true hc];obtain⟨hmo,h1,h2,h3⟩:=hc;obtain⟨i,hi⟩: ∃i:Nat,q.repo=(i:Int):=⟨q.repo.toNat,by omega⟩;have hil:i<m.Rz.length:=by omega
    have HAD:=Ja ((Yj.1 (repo_of hmo (List.getElem?_eq_getElem hil))).2.2.2.1);have HI:=Ja hi;obtain⟨fr,hr⟩:=H.hb.Rz;obtain⟨-,hrc,hrm, -⟩:=id hr;unfold maxLen at hrm;obtain⟨fk,hkk⟩:=H.hb.keys;obtain⟨rfl,hkc,hkm, -⟩:=id hkk;unfold maxLen at hkm;obtain⟨b,o,D1,l1,d1,f1,D2,l2,d2,f2,rfl, -, -,p0, -, -, -, -, -⟩:=J7 hr hil;obtain⟨-, -,x2⟩:=H.hb.cells
    obtain⟨q0, -,q2, -⟩:=H.qb.cells;rw[HI.out] at q2;have z0:=H.frz 0;have i0:(0:Int)≤(i:Int):=by omega
    have i1:(i:Int)<(m.Rz.length:Int):=by omega
    clear hi h1 h2 h3 hmo;go_upto_region 6 with fail
    replace H:=H.same (i:=0) (v:= .int .i64 m.Rz[i].Az) (q':= { q with user:=m.Rz[i].Az}) rfl rfl;clear p0 q0 z0 x2;generalize World.setCell w4 ⟨w1.heap.size+1,0,none⟩ (.int .i64 m.Rz[i].Az)=w5 at H ⊢;obtain⟨j,hj⟩: ∃j:Nat,m.Rz[i].Az=(j:Int)+1:=⟨(m.Rz[i].Az - 1).toNat,by have:=HAD.out;omega⟩;have hjl:j<m.keys.length:=by have:=HAD.out;omega
    obtain⟨fk,hkk⟩:=H.hb.keys;obtain⟨b',o',rfl, -, -,u0⟩:=Xg hkk hjl;obtain⟨x0, -, -⟩:=H.hb.cells;obtain⟨q0,q1, -⟩:=H.qb.cells;simp only[hj] at q0 H;have z1:=H.frz 1;have j0:(0:Int)≤(j:Int):=by omega
    have j1:(j:Int)<(m.keys.length:Int):=by omega
    clear hj q2 i0 i1 hkk;go_upto_region 7 with fail
    replace H:=H.same (i:=1) (v:= .int .i64 m.keys[j]) (q':= { q with user:=(j:Int)+1,key:=m.keys[j]}) rfl rfl;clear u0 q0 q1 z1 x0 j0 j1;generalize World.setCell w5 ⟨w1.heap.size+1,1,none⟩ (.int .i64 m.keys[j])=w6 at H ⊢;obtain⟨-, -, -, -,q4, -⟩:=H.qb.cells;have y4:=fun y:Obj=>J6 q4 y;have z4:=fun y:Obj=>(H.step ((Below.refl _ _).alloc nle y)).frz 4
    have HH:=fun y:Obj=>H.step ((Below.refl _ _).alloc nle y);have HHH:=Ja HH;clear HH q4;rcases(by omega:(code.length:Int) % 3=0∨(code.length:Int) % 3=1∨(code.length:Int) % 3=2) with h3|h3|h3
    ·go_wp2_with fail;go_meet
     case rel=>exact⟨_,(HHH.out _).same (i:=4) (v:= .string ⟨#[99]⟩) (q':= { q with user:=(j:Int)+1,key:=m.keys[j],ref:=⟨#[99]⟩}) rfl rfl,⟨(by decide:(1:Nat)≤4194304),hf.out.2.other,hf.out.2.path,hf.out.2.rule,hf.out.2.Ez⟩⟩
    ·go_wp2_with fail;go_meet
     case rel=>exact⟨_,(HHH.out _).same (i:=4) (v:= .string ⟨#[122,122]⟩) (q':= { q with user:=(j:Int)+1,key:=m.keys[j],ref:=⟨#[122,122]⟩}) rfl rfl,⟨(by decide:(2:Nat)≤4194304),hf.out.2.other,hf.out.2.path,hf.out.2.rule,hf.out.2.Ez⟩⟩
    ·go_wp2_with fail;go_meet
     case rel=>exact⟨_,(HHH.out _).same (i:=4) (v:= .string ⟨#[97]⟩) (q':= { q with user:=(j:Int)+1,key:=m.keys[j],ref:=⟨#[97]⟩}) rfl rfl,⟨(by decide:(1:Nat)≤4194304),hf.out.2.other,hf.out.2.path,hf.out.2.rule,hf.out.2.Ez⟩⟩
  case rest=>
   obtain⟨w5,hw5⟩: ∃w5,w5=wc:=⟨_,rfl⟩;subst hw5;clear H;obtain⟨r,H,hfr⟩:=hcut;replace hf:=Ja (And.intro hf.out.1 hfr);clear hfr HS HOKD;obtain⟨-, -, -,p3, -⟩:=H.qb.cells;have z3:=H.frz 3;go_upto_region 9 with fail
   replace H:=H.same (i:=3) (v:= .int .i64 6) (q':= { r with kind:=6}) rfl rfl;clear p3 z3;generalize World.setCell w5 ⟨w1.heap.size+1,3,none⟩ (.int .i64 6)=w6 at H ⊢;have hk6:({ r with kind:=6} :Req).kind=6:=rfl;have hfr:=fit_with (q':= { r with kind:=6}) hf.out.2 rfl rfl rfl rfl rfl;generalize({ r with kind:=6} :Req)=q at H hk6 hfr;have HK:=Ja hk6;replace hf:=Ja (And.intro hf.out.1 hfr)
   clear hk6 hfr;have HQL:=Ja H.kq.lt;obtain⟨x,a,ho⟩: ∃x a,jai m q=(x,a):=⟨_,_,rfl⟩;have HO:=Ja ho;clear ho;obtain⟨x0,x1,x2⟩:=(H.hb).cells;go_wp2_with((refine wpList_load_row rfl 31 (.tmp 4) rfl _ rfl _ _ _ _ (H.qb).k.out Tryz.underlying31 rfl jb3 ?_));go_wp2_with fail;refine(implDo (H.hb) (H.qb) hf.out.1 hf.out.2).mono ?_;rintro e w7 hd
   obtain⟨A4,na4,ca4,A5,na5,ca5,A6,ca6,B0,nb0,cb0,B1,nb1,cb1,rfl,hX,hA,hb3⟩:=hd.partsn HO.out;have HZhx:=Ja hb3.size;replace H:=H.step hb3;clear hb3 hd x0 x1 x2;go_upto_region 10 with fail
   refine wp_HAn hX hA ?_;intro w8 hx ha hb3;replace H:=H.step hb3;clear hb3 hX hA;obtain⟨x0,x1,x2⟩:=(H.hb).cells;go_wp2_with((refine wpList_load_row rfl 31 (.tmp 4) rfl _ rfl _ _ _ _ (H.qb).k.out Tryz.underlying31 rfl jb3 ?_));go_wp2_with fail;refine(specDo (H.hb) (H.qb) hf.out.1 hf.out.2).mono ?_;rintro e w9 hd
   obtain⟨A7,na7,ca7,A8,na8,ca8,A9,ca9,B2,nb2,cb2,B3,nb3,cb3,rfl,hX,hA,hb3⟩:=hd.partsn HO.out;have HZhy:=Ja hb3.size;replace H:=H.step hb3;replace hx:=hx.step hb3;replace ha:=ha.step hb3;clear hb3 hd x0 x1 x2;go_upto_region 11 with fail
   refine wp_HAn hX hA ?_;intro w10 hy hb hb3;replace H:=H.step hb3;replace hx:=hx.step hb3;replace ha:=ha.step hb3;clear hb3 hX hA;obtain⟨x0,x1,x2⟩:=hx.hb.cells;obtain⟨y0,y1,y2⟩:=hy.hb.cells;go_wp2_with fail;refine(jqp hx.hb hy.hb).mono ?_;rintro e w11 ⟨rfl,hb3⟩;replace H:=H.step hb3;replace hx:=hx.step hb3;replace ha:=ha.step hb3;replace hy:=hy.step hb3;replace hb:=hb.step hb3
   clear hb3 x0 x1 x2 y0 y1 y2;obtain⟨x0,x1,x2,x3⟩:=ha.cells;obtain⟨y0,y1,y2,y3⟩:=hb.cells;go_wp2_with fail;refine(jp8 ha hb).mono ?_;rintro e w12 ⟨rfl,hb3⟩;replace H:=H.step hb3;replace hx:=hx.step hb3;replace ha:=ha.step hb3;clear hb3 x0 x1 x2 x3 y0 y1 y2 y3 hy hb;obtain⟨a0, -, -, -⟩:=ha.cells;cases e1:(a.code !=1);rotate_left
   ·obtain⟨x0,x1,x2⟩:=hx.hb.cells;obtain⟨y0,y1,y2⟩:=H.hb.cells;go_wp2_with fail;refine(chModel_two hx.hb H.hb).mono ?_;rintro e w20 ⟨rfl,hb3⟩;replace H:=H.step hb3;replace a0:=Je a0 hb3;by_cases hok:Ys m=true∧Yw q=true
    ·have hxm:x=m:=by
      have h:=HO.out;rw[jhr hok] at h;have h2:=refused (m:=m) (r:=q) (.inl (by rw[h];simpa using e1));rw[h] at h2;exact h2
     rw[decide_eq_true hxm];go_wp2_with fail;refine(chOk_any _).mono ?_;rintro e w21 ⟨rfl,hb4⟩;go_wp2;go_ret;exact⟨rfl,Below.t HB (Below.t H.on hb4)⟩
    ·rw[code_zero hok HO.out] at a0;cases hd:decide (x=m)
     all_goals
      go_wp2_with fail;refine(chOk_any _).mono ?_;rintro e w21 ⟨rfl,hb4⟩;go_wp2;go_ret;exact⟨rfl,Below.t HB (Below.t H.on hb4)⟩
   have hc1:a.code=1:=by simpa using e1
   have HOK:=Ja (show Ys m=true∧Yw q=true from Classical.byContradiction fun h=>by have:=code_zero h HO.out;rw[this] at hc1;simp at hc1);have HD:=Ja (show Zn m q=(x,a) by rw[←HO.out,jhr HOK.out]);have HG:=Ja (named HOK.out.1 HOK.out.2 HK.out (by rw[HD.out];exact hc1));rw[HD.out] at HG
   have HXO:=Ja (show Ys x=true by have h:=jh2 HOK.out.1 HOK.out.2;rw[HD.out] at h;exact h);have HFX:=Ja (And.intro (Jv HXO.out) hf.out.2);obtain⟨v,b,ho⟩: ∃v b,jai x q=(v,b):=⟨_,_,rfl⟩;have HO2:=Ja ho;have HB7:=Ja (show b.code=7 by have h:=HG.out.2.2.1;rw[←jhr ⟨HXO.out,HOK.out.2⟩,ho] at h;exact h);clear ho hc1;go_upto_region 15 with fail
   clear a0 ha;have HQL2:=Ja H.kq.lt;obtain⟨x0,x1,x2⟩:=hx.hb.cells;obtain⟨-, -,q2, -,q4, -⟩:=H.qb.cells;go_wp2_with fail;refine(implFiles_some hx.hb HFX.out.1 _ _ _ (by decide) HG.out.1).mono ?_;rintro e w13 ⟨N4,d4,g4,rfl, -,hb3⟩;replace H:=H.step hb3;replace hx:=hx.step hb3;clear hb3 x0 x1 x2 q2 q4;obtain⟨x0,x1,x2⟩:=hx.hb.cells;obtain⟨-, -,q2, -,q4, -⟩:=H.qb.cells;go_wp2_with fail
   refine(implFiles_none hx.hb HFX.out.1 _ _ _ (by decide) HG.out.2.1).mono ?_;rintro e w14 ⟨N5,d5,rfl,hb3⟩;replace H:=H.step hb3;replace hx:=hx.step hb3;clear hb3 x0 x1 x2 q2 q4;have HQL3:=Ja H.kq.lt;obtain⟨x0,x1,x2⟩:=(hx.hb).cells;go_wp2_with((refine wpList_load_row rfl 31 (.tmp 4) rfl _ rfl _ _ _ _ (H.qb).k.out Tryz.underlying31 rfl jb3 ?_));go_wp2_with fail
   refine(implDo (hx.hb) (H.qb) HFX.out.1 HFX.out.2).mono ?_;rintro e w15 hd;obtain⟨D4,nd4,cd4,D5,nd5,cd5,D6,cd6,E0,ne0,ce0,E1,ne1,ce1,rfl,hX,hA,hb3⟩:=hd.partsn HO2.out;have HZhv:=Ja hb3.size;replace H:=H.step hb3;replace hx:=hx.step hb3;clear hb3 hd x0 x1 x2;go_upto_region 18 with fail
   refine wp_HAn hX hA ?_;intro w16 hv hb hb3;replace H:=H.step hb3;replace hx:=hx.step hb3;clear hb3 hX hA;clear hv;obtain⟨-, -, -,p3, -⟩:=H.qb.cells;have z3:=H.frz 3;have kb:=hb.k;go_upto_region 19 with fail
   have ho:=Js w16 (w1.heap.size+1) 3 (.int .i64 7);replace H:=H.same (i:=3) (v:= .int .i64 7) (q':= { q with kind:=7}) rfl rfl;replace hx:=hx.only ho (by have:=HQL.out;have:=HZhx.out;omega) HQL.out;replace kb:=kb.only ho (by have:=HQL2.out;have:=HQL3.out;have:=HZhv.out;simp;omega);clear p3 z3 ho hb;generalize World.setCell w16 ⟨w1.heap.size+1,3,none⟩ (.int .i64 7)=w17 at H hx kb ⊢
   have hfr:=fit_with (q':= { q with kind:=7}) hf.out.2 rfl rfl rfl rfl rfl;have HQ5:=Ja (reqOk_set HOK.out.2 (k:=7) (by decide) (by decide));have HO3:=Ja (show jai x { q with kind:=7} =(m,(⟨1,[],[],0⟩:Ans)) by rw[jhr ⟨HXO.out,HQ5.out⟩,HG.out.2.2.2];rfl);obtain⟨cc,hcc⟩: ∃cc:Ans,cc=⟨1,[],[],0⟩:=⟨_,rfl⟩;rw[←hcc] at HO3;have HC1:=Ja (show cc.code=1 by rw[hcc]);clear hcc
   have HFX2:=Ja (And.intro (Jv HXO.out) hfr);generalize({ q with kind:=7} :Req)=q5 at H hfr HO3 HFX2 HQ5;clear hfr;obtain⟨x0,x1,x2⟩:=(hx.hb).cells;go_wp2_with((refine wpList_load_row rfl 31 (.tmp 4) rfl _ rfl _ _ _ _ (H.qb).k.out Tryz.underlying31 rfl jb3 ?_));go_wp2_with fail;refine(implDo (hx.hb) (H.qb) HFX2.out.1 HFX2.out.2).mono ?_;rintro e w18 hd
   obtain⟨F4,nf4,cf4,F5,nf5,cf5,F6,cf6,G0,ng0,cg0,G1,ng1,cg1,rfl,hX,hA,hb3⟩:=hd.partsn HO3.out;have HZhy:=Ja hb3.size;replace H:=H.step hb3;replace hx:=hx.step hb3;replace kb:=kb.step hb3;clear hb3 hd x0 x1 x2;go_upto_region 20 with fail
   refine wp_HAn hX hA ?_;intro w19 hy hc hb3;replace H:=H.step hb3;replace hx:=hx.step hb3;replace kb:=kb.step hb3;clear hb3 hX hA;obtain⟨c0, -, -, -⟩:=hc.cells;have b0:=kb.cell 0;simp only[List.getElem?_toArray,List.getElem?_cons_zero] at b0;rw[HC1.out] at c0;rw[HB7.out] at b0;obtain⟨y0,y1,y2⟩:=hy.hb.cells;obtain⟨m0,m1,m2⟩:=H.hb.cells;go_wp2_with fail;refine(jqp hy.hb H.hb).mono ?_
   rintro e w20 ⟨rfl,hb3⟩;go_wp2;go_ret;exact⟨rfl,Below.t HB (Below.t H.on hb3)⟩
def Opens {α H:Type} (enc:TypeId×Value→H) (P:Program) (t:TypeId) (r:Rp α) (ok:α→Prop):Prop:=
 ∀ {w:World} {base:Nat} {spare:Nat→Bool} {held:Bool} {fuel:Nat} {cs:List Value} {x:DataW H×List MemPlace},DataW.trod enc P w base spare held fuel t cs=some x→∃y fp,r.R w cs y fp∧ok y
section
variable {H:Type} {enc:TypeId×Value→H} {P:Program}
theorem opens_byte {t:TypeId} (ht:P.underlying t=some (.int .u8)):Opens enc P t Rp.byte (fun _=>True):=fun h=>by
 obtain⟨n,rfl,_,hw⟩:=DataW.trod_int ht h;simp[Lit.wf,IntKind.min,IntKind.max,IntKind.signed,IntKind.bits] at hw;refine⟨UInt8.ofNat n.toNat,[],⟨?_,rfl⟩,trivial⟩;have e:((UInt8.ofNat n.toNat).toNat:Int)=n:=by
  rw[UInt8.toNat_ofNat'];omega
 show [Value.int .u8 n]= [Value.int .u8 ((UInt8.ofNat n.toNat).toNat:Int)];rw[e]
theorem spot_none {w:World} {a:Addr} {v:Value} (h:w.cell? a=some v):a.spot=none:=by
 unfold World.cell? at h;split at h
 ·split at h
  ·cases h
  ·rename_i hs;simpa using hs
 ·cases h
theorem opens_rows {α:Type} {r:Rp α} {ok:α→Prop} {w:World} {base:Nat} {a:Addr} : ∀(len:Nat),(∀i,i<len→∃cs' y f,w.cells? base (a.add (i*r.k)) r.k=some cs'∧r.R w cs' y f∧ok y)→
  ∃xs l fp,l.length=len∧AllR r w xs l fp∧(∀y∈l,ok y)∧∀j u,xs[j]? =some u→w.cell? (a.add j)=some u
 | 0,_=>⟨[],[],[],rfl,⟨rfl,rfl⟩,by simp,by simp⟩
 |len+1,h=>by
  obtain⟨xs,l,fp,hl,ha,hok,hc⟩:=opens_rows len (fun i hi=>h i (by omega));obtain⟨cs',y,f,hcs,hr,hy⟩:=h len (by omega);obtain⟨_,hcl,hat⟩:=World.cells?_some hcs;have hxl:=ha.len;refine⟨xs++cs',l++ [y],fp++f,by simp[hl],ha.snoc hr,fun z hz=> ?_,fun j u hu=> ?_⟩
  ·rcases List.mem_append.1 hz with hz|hz
   ·exact hok z hz
   ·simp at hz;subst hz;exact hy
  ·by_cases hj:j<xs.length
   ·rw[List.getElem?_append_left hj] at hu;exact hc j u hu
   ·rw[List.getElem?_append_right (by omega)] at hu;have hlt:=(List.getElem?_eq_some_iff.1 hu).1;have:=hat (i:=j - xs.length) (by omega);rw[hu] at this;rw[Go.Deep.add_add,show len*r.k+(j - xs.length)=j from by rw[hl] at hxl;omega] at this;exact this
theorem opens_slice {α:Type} {r:Rp α} {ok:α→Prop} {t e:TypeId} (ht:P.underlying t=some (.slice e)) (hC:P.cellsOf e=r.k) (hk:0<r.k) (h:Opens enc P e r ok):Opens enc P t (Rp.slice r) (fun l=>∀y∈l,ok y):=fun {w base spare held fuel cs x} hr=>by
 rcases open_slice ht hr with ⟨rfl,_⟩|⟨a,len,cap,m,n,D,Pl,rfl,hb,hl,hm,hmm,_,hi⟩
 ·exact⟨[],[],⟨none,0,0,rfl,SlR.nil⟩,by simp⟩
 ·have hle:len≤m:=by rw[hmm];split<;>omega
  rw[hC] at hi;obtain⟨xs,l,fp,hlen,ha,hok,hc⟩:=opens_rows (r:=r) (ok:=ok) (w:=w) (base:=base) (a:=a) len (fun i hii=>by
   obtain⟨cs',hcs,htr⟩:=hi i (by omega);obtain⟨y,f,hR,hy⟩:=h htr;exact⟨cs',y,f,hcs,hR,hy⟩)
  have hxl:=ha.len;by_cases h0:len=0
  ·subst h0;have:l= []:=List.eq_nil_of_length_eq_zero hlen;subst this;obtain⟨rfl,rfl⟩:=ha;exact⟨[],[],⟨some a,0,cap,rfl,rfl,Nat.zero_le _,hm,[],[],[],⟨by simp,.inl ⟨rfl,rfl⟩⟩,⟨rfl,rfl⟩,rfl⟩,by simp⟩
  ·have hpos:0<xs.length:=by rw[hxl,hlen];exact Nat.mul_pos (by omega) hk
   have h00:=hc 0 xs[0] (List.getElem?_eq_getElem hpos);have ha0:a.add 0=a:=by simp[Addr.add]
   rw[ha0] at h00;obtain⟨b,o,s⟩:=a;have hs:s=none:=spot_none h00;subst hs;refine⟨l,[b]++fp,⟨_,len,cap,rfl,hlen.symm,hl,hm,xs,[b],fp,⟨by rw[hxl,hlen],.inr ⟨by omega,b,o,rfl,rfl,World.block_lt_of_cell? w _ h00,fun j u hu=> ?_⟩⟩,ha,rfl⟩,hok⟩;have:=hc j u hu;rwa [Addr.add_lit] at this
theorem post_of_below {f:Func} {s:ChangeSpec} {apart fresh handsOn again:Bool} {W W':World} {args:Array Value} {v:Value} {ds gs:List (DataW H)} {before pa pv:List MemPlace}
  (hW:DataW.Whole enc P f.params.toList s.vars apart W args.toList ds gs before)
  (hres: ∀(b:Nat) (sp:Nat→Bool) (hd:Bool),DataW.TrodAll enc P W' b sp hd f.resultTypes.toList (v.resultList f.resultTypes.size) (s.fn H (ds++gs)).results [])
  (hargs: ∀sp:Nat→Bool,(∀p∈before,sp p.block=true)→DataW.TrodAll enc P W' 0 sp true f.params.toList args.toList (s.fn H (ds++gs)).args pa)
  (hvars: ∀sp:Nat→Bool,(∀p∈before,sp p.block=true)→DataW.TrodVars enc P W' sp s.vars (s.fn H (ds++gs)).vars pv)
  (hps:before=pa++pv) (hb:Below W.heap.size W W')
  (hok: ∀(j:Nat) (t:TypeId) (r:Value),f.resultTypes[j]? =some t→(v.resultList f.resultTypes.size)[j]? =some r→Value.okWide P W' .any 0 t r):
  s.post enc P f apart fresh handsOn again W args v W':=by
 have hlt: ∀p∈before,p.block<W.heap.size:=fun p hp=>hW.lt p hp;have hold: ∀p∈before,(fun b=>decide (b<W.heap.size)) p.block=true:=fun p hp=>by simpa using hlt p hp
 refine⟨ds,gs,before,[],pa,pv,hW,hres _ _ _,hargs _ hold,hvars _ hold,World.keptBut_mono (fun p hp=>⟨hp, ?_⟩) (hb.frame (·∈before)),fun _=> ?_⟩
 ·rw[hps,List.mem_append] at hp;exact Or.inr hp
 ·obtain⟨_,_,_,_,_,hz,hn⟩:=hW;refine⟨hok,_,_,([]++pa)++pv,⟨[]++pa,pv,trodAll_append (hargs _ (fun _ _=>rfl)) (hres _ _ _),hvars _ (fun _ _=>rfl),rfl, ?_, ?_⟩, ?_⟩
  ·intro b off hp;have hin:MemPlace.cell b off∈before:=by rw[hps];simpa using hp
   rw[hb.frozen (hlt _ hin)];exact hz b off hin
  ·intro ha;have:=hn ha;rw[hps] at this;simpa using this
  ·intro p hp _;rw[hps];simpa using hp
end
theorem fnMdlName_own:ownKnob Tryz.prog.godebug=none:=by kernel_rfl
theorem fnMdlName_laidOut:laidOutB Tryz.prog=true:=by kernel_rfl
theorem fnMdlName_contract (H:Type) (enc:TypeId×Value→H) (W:World) (base:Nat) (args:Array Value) (ds gs:List (DataW H)) (before:List MemPlace)
  (hval0: ∀(j:Nat) t v,Tryz.f12.params[j]? =some t→args[j]? =some v→Value.okWide Tryz.prog W .any base t v)
  (hW:DataW.Whole enc Tryz.prog Tryz.f12.params.toList Rows.fnMdlNameSpec.vars false W args.toList ds gs before):
  Calls Tryz.prog 12 args W fun e W'=>∃v,e= .returned v∧Rows.fnMdlNameSpec.post enc Tryz.prog Tryz.f12 false true false false W args v W':=by
 have hval:=hval0;have hW':=hW;obtain⟨p,q,hA0,hV,rfl,hfz,hnd⟩:=hW;have hA:DataW.TrodAll enc Tryz.prog W 0 (fun _=>true) true Tryz.f12.params.toList args.toList ds p:=hA0;rw[Tryz.params12] at hA hval;obtain⟨v0,d0,rfl,rfl,h0⟩:=trodAll_one hA;obtain⟨rfl,rfl⟩:=trodVars_none hV;have h0k:=h0;obtain⟨a0,len0,cap0,rfl⟩:=okWide_slice Tryz.underlying22 (hval 0 22 v0 rfl rfl);obtain⟨fuel0,hf0⟩:=h0
 obtain⟨l0,fp0,⟨A0,n0,c0,hcs0,hs0⟩,hw0⟩:=opens_slice Tryz.underlying22 (by kernel_rfl) (by decide) (opens_byte Tryz.underlying5) hf0;have hc0:Value.slice a0 len0 cap0= .slice A0 n0 c0:=by simpa [Value.cells] using hcs0
 rw[hc0] at h0k hW' ⊢;clear hf0 hcs0 hc0;clear hA0 hval hval0;simp only[List.append_nil] at hW';refine(lawName W hs0).mono fun e W' ⟨he,hb⟩=> ?_;subst he;have hlt0: ∀y∈p,y.block<W.heap.size:=fun y hy=>hW'.lt y (by simp[hy])
 refine⟨_,rfl,post_of_below (pa:=p) (pv:=[]) hW' (fun _ _ _=>trodAll_mk1 (shut_bool Tryz.underlying4 _)) (fun sp hsp=> ?_) (fun _ _=>rfl) (by simp) hb (ok_one (by kernel_rfl) rfl (okWide_bool_mk Tryz.underlying4 _))⟩;exact trodAll_mk1 (WideElems.Trod_stays fnMdlName_laidOut (by kernel_rfl) (of_decide_eq_true (by kernel_rfl)) h0k (fun y hy=>hb.same (hlt0 y hy)) (fun y hy=>hsp y (by simp[hy])))
mutual
def fnMdlName_flat:DataW Unit→List Value
 | .lit l=>[l.value]
 | .agg ps=>fnMdlName_flats ps
 |_=>[]
def fnMdlName_flats:List (DataW Unit)→List Value
 | []=>[]
 |d::r=>fnMdlName_flat d++fnMdlName_flats r
end
noncomputable def fnMdlName_world (os:Os):World:=
 { World.holding Tryz.prog os ⟨#[],#[],[]⟩ with heap:=(((World.holding Tryz.prog os ⟨#[],#[],[]⟩).heap.modify 2 fun
   | .cells _ t frozen=> .cells (fnMdlName_flat Rows.laid_unicode_utf8_acceptRanges).toArray t frozen
   |o=>o).modify 1 fun
   | .cells _ t frozen=> .cells (fnMdlName_flat Rows.laid_unicode_utf8_first).toArray t frozen
   |o=>o)}
set_option maxRecDepth 100000 in
theorem fnMdlName_met (os:Os):laidMet Tryz.prog Rows.fnMdlNameRow.laid ((fnMdlName_world os).forCall (fun _ _=>0) ⟨#[],#[.slice none 0 0],[]⟩).memory:=
 laidMet_of_run' 8 (by kernel_rfl) (by kernel_rfl)
theorem fnMdlName_reads (os:Os) {H:Type} (enc:TypeId×Value→H): ∃x,DataW.whole enc Tryz.prog ((fnMdlName_world os).forCall (fun _ _=>0) ⟨#[],#[.slice none 0 0],[]⟩).memory Tryz.f12.params.toList Rows.fnMdlNameSpec.vars false (#[.slice none 0 0]:Array Value).toList 8=some x:=
 Option.isSome_iff_exists.1 (show(DataW.whole enc Tryz.prog ((fnMdlName_world os).forCall (fun _ _=>0) ⟨#[],#[.slice none 0 0],[]⟩).memory Tryz.f12.params.toList Rows.fnMdlNameSpec.vars false (#[.slice none 0 0]:Array Value).toList 8).isSome=true by kernel_rfl)
theorem fnMdlName_lifted (os:Os) (started:os.Started) (H:Type) (enc:TypeId×Value→H) (F:Stop.Interp):
  ReturnsInHanded {} Tryz.checked os 12 .any ((OpenSpec.ofChange Rows.fnMdlNameSpec).preRow enc Tryz.prog Tryz.f12 Rows.fnMdlNameRow.domain false Rows.fnMdlNameRow.laid) (((OpenSpec.ofChange Rows.fnMdlNameSpec).at F).post enc Tryz.prog Tryz.f12 false true false false):=by
 obtain⟨x0,hx⟩:=fnMdlName_reads os enc;refine returnsInHanded_of_row (C:=Tryz.checked) (s:=OpenSpec.ofChange Rows.fnMdlNameSpec) fnMdlName_own started (by kernel_rfl) Tryz.func12
  (witness_row_at (enc:=enc) (C:=Tryz.checked) false (fnMdlName_world os) #[.slice none 0 0] rfl (by kernel_rfl) (by kernel_rfl) (by kernel_rfl)
   (OpenSpec.preRow_of_cond 8 hx (by kernel_rfl) (fun k hk=>by cases hk) (by kernel_rfl) (fnMdlName_met os))) ?_
 intro W base args ds gs before hval hW _ _ _ _ _ _;exact fnMdlName_contract H enc W base args ds gs before hval hW
theorem fnMdlName_closed:joinedFacts Tryz.pinned.checked.prog 12 Tryz.f12 (OpenSpec.ofChange Rows.fnMdlNameSpec).bare Rows.fnMdlNameRow=true:=by
 unfold joinedFacts;simp only[Bool.and_eq_true]
 repeat' apply And.intro
 all_goals(as_aux_lemma=>kernel_rfl)
theorem fnMdlName_said:Rows.FnMdlNameSaid:=
 OpenClaim.holds_of_cond 12 Tryz.f12 rfl rfl rfl rfl rfl rfl rfl ⟨rfl,rfl,rfl,rfl,rfl⟩ rfl rfl rfl rfl rfl (by kernel_rfl) Tryz.func12 fnMdlName_closed
  (of_decide_eq_true (by kernel_rfl)) (by unfold Func.isWrapper;first|(rw[if_pos (by decide+kernel)];kernel_rfl)|(rw[if_neg (by decide+kernel)];exact⟨rfl,rfl⟩))
  (fun os started H enc _ F=>by rw[OpenClaim.pre_eq_preRow];exact fnMdlName_lifted os started H enc F)
theorem fnMdlName_plain (f:FuncId) (fn:Func) (hf:Tryz.pinned.checked.prog.funcNamed "loop.example/chartulary/laws.FnMdlName" =some f) (hfn:Tryz.pinned.checked.prog.funcs[f]? =some fn):
  false=Tryz.pinned.checked.prog.looks []∧∀(j:Nat) t,fn.params[j]? =some t→Tryz.pinned.checked.prog.wantsStandIn t=false:=by
 obtain rfl:f=12:=Option.some.inj ((show Tryz.prog.funcNamed "loop.example/chartulary/laws.FnMdlName" =some 12 by kernel_rfl).symm.trans hf) |>.symm;obtain rfl:fn=Tryz.f12:=(Option.some.inj (Tryz.func12.symm.trans hfn)).symm;refine⟨by kernel_rfl,fun j t ht=> ?_⟩;rw[Tryz.params12] at ht;have hm:=Array.mem_of_getElem? ht;simp only[List.mem_toArray,List.mem_cons,List.not_mem_nil,or_false] at hm
 rcases hm with rfl
 ·exact(show Tryz.prog.wantsStandIn 22=false by kernel_rfl)
theorem fnMdlName_holds:Rows.FnMdlNameCardSaid:=
 Claim7.holds_tied_plain_at .later [] _ _ _ _ fnMdlName_said (fun _ h=>by cases h) (by kernel_rfl) (fun _ h=>by cases h) fnMdlName_row_tie rfl ⟨rfl,rfl⟩ (by kernel_rfl) rfl fnMdlName_plain (by kernel_rfl)
#print axioms fnMdlName_holds
end Go.Proofs.YtlkoaobaoffpaaaGreatDoor
